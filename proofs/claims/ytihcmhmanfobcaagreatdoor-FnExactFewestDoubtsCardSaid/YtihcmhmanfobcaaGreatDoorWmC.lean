/- Marks on chanceries, people, lands and worlds that the call itself made, and whether they are still held. -/
import Derived.Test.YtihcmhmanfobcaaGreatDoorWmA
import Derived.Test.YtihcmhmanfobcaaGreatDoorWmB
import Derived.Test.YtihcmhmanfobcaaGreatDoorMarkF
set_option maxHeartbeats 2000000
set_option maxRecDepth 20000
namespace Go.Proofs.YtihcmhmanfobcaaGreatDoor
open Go.RowKit Go.Sort
theorem Bx.mka{w w':World}{b:Nat}{cs:List Value}{L L':List Rw}(h:Bx w b cs)(m:MkA w w' L L')(hb:∀r∈L,r.v.ownBlock≠some b):Bx w' b cs:=fun j u hu=>by
 have hlt:=block_lt_of_cell (h j u hu).1
 have e:=m.block b hlt hb
 exact⟨by rw[World.cell?_of_block (a:=⟨b,j,none⟩) e];exact(h j u hu).1,by rw[World.frozen?_of_block (a:=⟨b,j,none⟩) e];exact(h j u hu).2⟩
theorem OwA.new{w:World}{base:Nat}{L:List Rw}(h:OwA w base L){b:Nat}(hb:w.heap.size≤b):∀r∈L,r.v.ownBlock≠some b:=fun r hr e=>by have:=(h.lt hr e).2;omega
def mN(s:Sl Nm)(k:Int):Sl Nm:=⟨s.A,s.c,mkNm k s.l.length⟩
theorem rwReign_m(s:Sl Nm)(k:Int):rwReign (mN s k)=⟨233,3,.slice s.A s.l.length s.c,s.l.length,(mkNm k s.l.length).flatMap Nm.cells⟩:=by simp[rwReign,mN,Sl.val,mkNm_len]
theorem markReign_s(s:Sl Nm)(k:Int)(w:World)(base:Nat)(h:(rwReign s).own w base)(hn:s.l.length≤2000000)(h0:1≤k)(hk:k≤60000000) :
 Calls Tryz.prog 132 #[.slice s.A s.l.length s.c,.int .i64 k] w fun e w'=>e=.returned (.int .i64 (k+3*s.l.length))∧MkA w w' [rwReign s] [rwReign (mN s k)] :=
 (markReignS_any s.A s.l.length s.c base _ k w h hn h0 hk).mono fun _ _ ⟨h1,h2⟩=>⟨h1,by rw[rwReign_m];exact h2⟩
theorem rwPerson_m(s:Sl Nm)(k:Int):rwPerson (mN s k)=⟨229,3,.slice s.A s.l.length s.c,s.l.length,(mkNm k s.l.length).flatMap Nm.cells⟩:=by simp[rwPerson,mN,Sl.val,mkNm_len]
theorem markPerson_s(s:Sl Nm)(k:Int)(w:World)(base:Nat)(h:(rwPerson s).own w base)(hn:s.l.length≤2000000)(h0:1≤k)(hk:k≤60000000) :
 Calls Tryz.prog 133 #[.slice s.A s.l.length s.c,.int .i64 k] w fun e w'=>e=.returned (.int .i64 (k+3*s.l.length))∧MkA w w' [rwPerson s] [rwPerson (mN s k)] :=
 (markPersonS_any s.A s.l.length s.c base _ k w h hn h0 hk).mono fun _ _ ⟨h1,h2⟩=>⟨h1,by rw[rwPerson_m];exact h2⟩
theorem rwMark_m(s:Sl Nm)(k:Int):rwMark (mN s k)=⟨174,3,.slice s.A s.l.length s.c,s.l.length,(mkNm k s.l.length).flatMap Nm.cells⟩:=by simp[rwMark,mN,Sl.val,mkNm_len]
theorem markMark_s(s:Sl Nm)(k:Int)(w:World)(base:Nat)(h:(rwMark s).own w base)(hn:s.l.length≤2000000)(h0:1≤k)(hk:k≤60000000) :
 Calls Tryz.prog 81 #[.slice s.A s.l.length s.c,.int .i64 k] w fun e w'=>e=.returned (.int .i64 (k+3*s.l.length))∧MkA w w' [rwMark s] [rwMark (mN s k)] :=
 (markMarkS_any s.A s.l.length s.c base _ k w h hn h0 hk).mono fun _ _ ⟨h1,h2⟩=>⟨h1,by rw[rwMark_m];exact h2⟩
def mT(s:Sl Tm)(k:Int):Sl Tm:=⟨s.A,s.c,mkTm k s.l.length⟩
theorem rwTerm_m(s:Sl Tm)(k:Int):rwTerm (mT s k)=⟨236,4,.slice s.A s.l.length s.c,s.l.length,(mkTm k s.l.length).flatMap Tm.cells⟩:=by simp[rwTerm,mT,Sl.val,mkTm_len]
theorem markTerm_s(s:Sl Tm)(k:Int)(w:World)(base:Nat)(h:(rwTerm s).own w base)(hn:s.l.length≤2000000)(h0:1≤k)(hk:k≤60000000) :
 Calls Tryz.prog 134 #[.slice s.A s.l.length s.c,.int .i64 k] w fun e w'=>e=.returned (.int .i64 (k+4*s.l.length))∧MkA w w' [rwTerm s] [rwTerm (mT s k)] :=
 (markTermS_any s.A s.l.length s.c base _ k w h hn h0 hk).mono fun _ _ ⟨h1,h2⟩=>⟨h1,by rw[rwTerm_m];exact h2⟩
def mI(s:Sl I3)(k:Int):Sl I3:=⟨s.A,s.c,mkI3 k s.l.length⟩
theorem rwWay_m(s:Sl I3)(k:Int):rwWay (mI s k)=⟨232,3,.slice s.A s.l.length s.c,s.l.length,(mkI3 k s.l.length).flatMap I3.cells⟩:=by simp[rwWay,mI,Sl.val,mkI3_len]
theorem markWay_s(s:Sl I3)(k:Int)(w:World)(base:Nat)(h:(rwWay s).own w base)(hn:s.l.length≤2000000)(h0:1≤k)(hk:k≤60000000) :
 Calls Tryz.prog 135 #[.slice s.A s.l.length s.c,.int .i64 k] w fun e w'=>e=.returned (.int .i64 (k+3*s.l.length))∧MkA w w' [rwWay s] [rwWay (mI s k)] :=
 (markWayS_any s.A s.l.length s.c base _ k w h hn h0 hk).mono fun _ _ ⟨h1,h2⟩=>⟨h1,by rw[rwWay_m];exact h2⟩
theorem rwStay_m(s:Sl I3)(k:Int):rwStay (mI s k)=⟨172,3,.slice s.A s.l.length s.c,s.l.length,(mkI3 k s.l.length).flatMap I3.cells⟩:=by simp[rwStay,mI,Sl.val,mkI3_len]
theorem markStay_s(s:Sl I3)(k:Int)(w:World)(base:Nat)(h:(rwStay s).own w base)(hn:s.l.length≤2000000)(h0:1≤k)(hk:k≤60000000) :
 Calls Tryz.prog 80 #[.slice s.A s.l.length s.c,.int .i64 k] w fun e w'=>e=.returned (.int .i64 (k+3*s.l.length))∧MkA w w' [rwStay s] [rwStay (mI s k)] :=
 (markStayS_any s.A s.l.length s.c base _ k w h hn h0 hk).mono fun _ _ ⟨h1,h2⟩=>⟨h1,by rw[rwStay_m];exact h2⟩
def mC(s:Sl Cl)(k:Int):Sl Cl:=⟨s.A,s.c,mkCl k s.l.length⟩
theorem rwClause_m(s:Sl Cl)(k:Int):rwClause (mC s k)=⟨209,8,.slice s.A s.l.length s.c,s.l.length,(mkCl k s.l.length).flatMap Cl.cells⟩:=by simp[rwClause,mC,Sl.val,mkCl_len]
theorem markClause_s(s:Sl Cl)(k:Int)(w:World)(base:Nat)(h:(rwClause s).own w base)(hn:s.l.length≤2000000)(h0:1≤k)(hk:k≤60000000) :
 Calls Tryz.prog 83 #[.slice s.A s.l.length s.c,.int .i64 k] w fun e w'=>e=.returned (.int .i64 (k+8*s.l.length))∧MkA w w' [rwClause s] [rwClause (mC s k)] :=
 (markClauseS_any s.A s.l.length s.c base _ k w h hn h0 hk).mono fun _ _ ⟨h1,h2⟩=>⟨h1,by rw[rwClause_m];exact h2⟩
def mW(s:Sl Wi)(k:Int):Sl Wi:=⟨s.A,s.c,mkWi k s.l.length⟩
theorem rwWitness_m(s:Sl Wi)(k:Int):rwWitness (mW s k)=⟨167,2,.slice s.A s.l.length s.c,s.l.length,(mkWi k s.l.length).flatMap Wi.cells⟩:=by simp[rwWitness,mW,Sl.val,mkWi_len]
theorem markWitness_s(s:Sl Wi)(k:Int)(w:World)(base:Nat)(h:(rwWitness s).own w base)(hn:s.l.length≤2000000)(h0:1≤k)(hk:k≤60000000) :
 Calls Tryz.prog 84 #[.slice s.A s.l.length s.c,.int .i64 k] w fun e w'=>e=.returned (.int .i64 (k+2*s.l.length))∧MkA w w' [rwWitness s] [rwWitness (mW s k)] :=
 (markWitnessS_any s.A s.l.length s.c base _ k w h hn h0 hk).mono fun _ _ ⟨h1,h2⟩=>⟨h1,by rw[rwWitness_m];exact h2⟩
def mS(s:Sl ByteArray)(k:Int):Sl ByteArray:=⟨s.A,s.c,mkS k s.l.length⟩
theorem rwStr_m(s:Sl ByteArray)(k:Int):rwStr (mS s k)=⟨9,1,.slice s.A s.l.length s.c,s.l.length,(mkS k s.l.length).flatMap strC⟩:=by simp[rwStr,mS,Sl.val,mkS_len]
theorem markStr_s(s:Sl ByteArray)(k:Int)(w:World)(base:Nat)(h:(rwStr s).own w base)(hn:s.l.length≤2000000)(h0:1≤k)(hk:k≤60000000) :
 Calls Tryz.prog 85 #[.slice s.A s.l.length s.c,.int .i64 k] w fun e w'=>e=.returned (.int .i64 (k+s.l.length))∧MkA w w' [rwStr s] [rwStr (mS s k)] :=
 (markStrW_any s.A s.l.length s.c base _ k w h hn h0 (by omega)).mono fun _ _ ⟨h1,h2,h3⟩=>⟨h1,by rw[rwStr_m];exact MkA.leaf (r:=rwStr s) h h2 h3⟩
theorem markChancery_any(s:Sl Nm)(fr to_:Int)(k:Int)(w:World)(base:Nat)(h:OwA w base ([rwReign s]))(hn:s.l.length≤2000000)(h0:1≤k)(hk:k+3*(s.l.length:Int)≤60000000) :
 Calls Tryz.prog 77 #[.agg #[.slice s.A s.l.length s.c,.int .i64 fr,.int .i64 to_],.int .i64 k] w fun e w'=>e=.returned (.int .i64 (k+3*(s.l.length:Int)))∧MkA w w' ([rwReign s]) ([rwReign (mN s k)]):=by
 have qO:OwA w base ([rwReign s]):=h
 have hnew:=qO.new (Nat.le_refl w.heap.size)
 have hB:=Bx.new w #[.slice s.A s.l.length s.c,.int .i64 fr,.int .i64 to_] 48
 have u:=Up.alloc w (.cells #[.slice s.A s.l.length s.c,.int .i64 fr,.int .i64 to_] 48)
 replace qO:=qO.up u;go_enter Tryz.func77,Tryz.ntmps77
 go_wp2_with fail
 generalize w.alloc (.cells #[.slice s.A s.l.length s.c,.int .i64 fr,.int .i64 to_] 48)=w0 at *
 obtain⟨x0,x1,x2⟩:=hB.c3
 refine(markReign_s s (k) _ base (qO.each _ (by simp)) (by omega) (by omega) (by omega)).mono ?_
 rintro e w1 ⟨rfl,v1⟩
 replace hB:=hB.mka v1 (fun r hr=>hnew r hr)
 go_wp2;go_ret;exact⟨ret_int (by omega),(MkA.up u).trans v1⟩
theorem markPeople_any(s:Sl Nm)(t:Sl Tm)(k:Int)(w:World)(base:Nat)(h:OwA w base ([rwPerson s,rwTerm t]))(hn:s.l.length≤2000000)(hm:t.l.length≤2000000)(h0:1≤k)(hk:k+(3*(s.l.length:Int)+4*(t.l.length:Int))≤60000000) :
 Calls Tryz.prog 78 #[.agg #[.slice s.A s.l.length s.c,.slice t.A t.l.length t.c],.int .i64 k] w fun e w'=>e=.returned (.int .i64 (k+(3*(s.l.length:Int)+4*(t.l.length:Int))))∧MkA w w' ([rwPerson s,rwTerm t]) ([rwPerson (mN s k),rwTerm (mT t (k+3*(s.l.length:Int)))]):=by
 have qO:OwA w base ([rwPerson s]++([rwTerm t])):=h
 have hnew:=qO.new (Nat.le_refl w.heap.size)
 have hB:=Bx.new w #[.slice s.A s.l.length s.c,.slice t.A t.l.length t.c] 52
 have u:=Up.alloc w (.cells #[.slice s.A s.l.length s.c,.slice t.A t.l.length t.c] 52)
 replace qO:=qO.up u;go_enter Tryz.func78,Tryz.ntmps78
 go_wp2_with fail
 generalize w.alloc (.cells #[.slice s.A s.l.length s.c,.slice t.A t.l.length t.c] 52)=w0 at *
 obtain⟨x0,x1⟩:=hB.c2
 refine(markPerson_s s (k) _ base (qO.left.each _ (by simp)) (by omega) (by omega) (by omega)).mono ?_
 rintro e w1 ⟨rfl,v1⟩
 replace hB:=hB.mka v1 (fun r hr=>hnew r (List.mem_append_left _ hr))
 replace qO:=((v1.left ([rwTerm t])).own qO).right
 obtain⟨x0,x1⟩:=hB.c2
 go_wp2_with fail
 refine(markTerm_s t (k+3*(s.l.length:Int)) _ base (qO.each _ (by simp)) (by omega) (by omega) (by omega)).mono ?_
 rintro e w2 ⟨rfl,v2⟩
 replace hB:=hB.mka v2 (fun r hr=>hnew r (List.mem_append_right _ hr))
 go_wp2;go_ret;exact⟨ret_int (by omega),(MkA.up u).trans (v1.both v2)⟩
theorem markLand_any(s:Sl ByteArray)(t:Sl I3)(k:Int)(w:World)(base:Nat)(h:OwA w base ([rwStr s,rwWay t]))(hn:s.l.length≤2000000)(hm:t.l.length≤2000000)(h0:1≤k)(hk:k+((s.l.length:Int)+3*(t.l.length:Int))≤60000000) :
 Calls Tryz.prog 79 #[.agg #[.slice s.A s.l.length s.c,.slice t.A t.l.length t.c],.int .i64 k] w fun e w'=>e=.returned (.int .i64 (k+((s.l.length:Int)+3*(t.l.length:Int))))∧MkA w w' ([rwStr s,rwWay t]) ([rwStr (mS s k),rwWay (mI t (k+(s.l.length:Int)))]):=by
 have qO:OwA w base ([rwStr s]++([rwWay t])):=h
 have hnew:=qO.new (Nat.le_refl w.heap.size)
 have hB:=Bx.new w #[.slice s.A s.l.length s.c,.slice t.A t.l.length t.c] 55
 have u:=Up.alloc w (.cells #[.slice s.A s.l.length s.c,.slice t.A t.l.length t.c] 55)
 replace qO:=qO.up u;go_enter Tryz.func79,Tryz.ntmps79
 go_wp2_with fail
 generalize w.alloc (.cells #[.slice s.A s.l.length s.c,.slice t.A t.l.length t.c] 55)=w0 at *
 obtain⟨x0,x1⟩:=hB.c2
 refine(markStr_s s (k) _ base (qO.left.each _ (by simp)) (by omega) (by omega) (by omega)).mono ?_
 rintro e w1 ⟨rfl,v1⟩
 replace hB:=hB.mka v1 (fun r hr=>hnew r (List.mem_append_left _ hr))
 replace qO:=((v1.left ([rwWay t])).own qO).right
 obtain⟨x0,x1⟩:=hB.c2
 go_wp2_with fail
 refine(markWay_s t (k+(s.l.length:Int)) _ base (qO.each _ (by simp)) (by omega) (by omega) (by omega)).mono ?_
 rintro e w2 ⟨rfl,v2⟩
 replace hB:=hB.mka v2 (fun r hr=>hnew r (List.mem_append_right _ hr))
 go_wp2;go_ret;exact⟨ret_int (by omega),(MkA.up u).trans (v1.both v2)⟩
def cW(x:Wd):Int:=3*(x.rs.l.length:Int)+(3*(x.ps.l.length:Int)+4*(x.ts.l.length:Int))+((x.pl.l.length:Int)+3*(x.ws.l.length:Int))+3*(x.st.l.length:Int)+3*(x.se.l.length:Int)+3*(x.ha.l.length:Int)
def mWd(x:Wd)(k:Int):Wd:=⟨mN x.rs k,x.fr,x.to_,mN x.ps (k+3*(x.rs.l.length:Int)),mT x.ts (k+3*(x.rs.l.length:Int)+3*(x.ps.l.length:Int)),mS x.pl (k+3*(x.rs.l.length:Int)+(3*(x.ps.l.length:Int)+4*(x.ts.l.length:Int))),mI x.ws (k+3*(x.rs.l.length:Int)+(3*(x.ps.l.length:Int)+4*(x.ts.l.length:Int))+(x.pl.l.length:Int)),mI x.st (k+3*(x.rs.l.length:Int)+(3*(x.ps.l.length:Int)+4*(x.ts.l.length:Int))+((x.pl.l.length:Int)+3*(x.ws.l.length:Int))),mN x.se (k+3*(x.rs.l.length:Int)+(3*(x.ps.l.length:Int)+4*(x.ts.l.length:Int))+((x.pl.l.length:Int)+3*(x.ws.l.length:Int))+3*(x.st.l.length:Int)),mN x.ha (k+3*(x.rs.l.length:Int)+(3*(x.ps.l.length:Int)+4*(x.ts.l.length:Int))+((x.pl.l.length:Int)+3*(x.ws.l.length:Int))+3*(x.st.l.length:Int)+3*(x.se.l.length:Int))⟩
theorem cW_nn(x:Wd):0≤cW x:=by unfold cW;omega
theorem markWorld_any(x:Wd)(k:Int)(w:World)(base:Nat)(h:OwA w base (rowsW x))(hs:SmW x)(h0:1≤k)(hk:k+cW x≤60000000) :
 Calls Tryz.prog 36 #[.agg #[.slice x.rs.A x.rs.l.length x.rs.c,.int .i64 x.fr,.int .i64 x.to_,.slice x.ps.A x.ps.l.length x.ps.c,.slice x.ts.A x.ts.l.length x.ts.c,.slice x.pl.A x.pl.l.length x.pl.c,.slice x.ws.A x.ws.l.length x.ws.c,.slice x.st.A x.st.l.length x.st.c,.slice x.se.A x.se.l.length x.se.c,.slice x.ha.A x.ha.l.length x.ha.c],.int .i64 k] w fun e w'=>e=.returned (.int .i64 (k+cW x))∧MkA w w' (rowsW x) (rowsW (mWd x k)):=by
 unfold cW at hk ⊢
 obtain⟨s1,⟨s2,s3⟩,⟨s4,s5⟩,s6,s7,s8⟩:=hs
 have qO:OwA w base ([rwReign x.rs]++([rwPerson x.ps,rwTerm x.ts]++([rwStr x.pl,rwWay x.ws]++([rwStay x.st]++([rwMark x.se]++([rwMark x.ha])))))):=h
 have hnew:=qO.new (Nat.le_refl w.heap.size)
 have hB:=Bx.new w #[.slice x.rs.A x.rs.l.length x.rs.c,.int .i64 x.fr,.int .i64 x.to_,.slice x.ps.A x.ps.l.length x.ps.c,.slice x.ts.A x.ts.l.length x.ts.c,.slice x.pl.A x.pl.l.length x.pl.c,.slice x.ws.A x.ws.l.length x.ws.c,.slice x.st.A x.st.l.length x.st.c,.slice x.se.A x.se.l.length x.se.c,.slice x.ha.A x.ha.l.length x.ha.c] 59
 have u:=Up.alloc w (.cells #[.slice x.rs.A x.rs.l.length x.rs.c,.int .i64 x.fr,.int .i64 x.to_,.slice x.ps.A x.ps.l.length x.ps.c,.slice x.ts.A x.ts.l.length x.ts.c,.slice x.pl.A x.pl.l.length x.pl.c,.slice x.ws.A x.ws.l.length x.ws.c,.slice x.st.A x.st.l.length x.st.c,.slice x.se.A x.se.l.length x.se.c,.slice x.ha.A x.ha.l.length x.ha.c] 59)
 replace qO:=qO.up u;go_enter Tryz.func36,Tryz.ntmps36
 go_wp2_with fail
 generalize w.alloc (.cells #[.slice x.rs.A x.rs.l.length x.rs.c,.int .i64 x.fr,.int .i64 x.to_,.slice x.ps.A x.ps.l.length x.ps.c,.slice x.ts.A x.ts.l.length x.ts.c,.slice x.pl.A x.pl.l.length x.pl.c,.slice x.ws.A x.ws.l.length x.ws.c,.slice x.st.A x.st.l.length x.st.c,.slice x.se.A x.se.l.length x.se.c,.slice x.ha.A x.ha.l.length x.ha.c] 59)=w0 at *
 obtain⟨x0,x1,x2,x3,x4,x5,x6,x7,x8,x9⟩:=hB.c10
 refine(markChancery_any x.rs x.fr x.to_ (k) _ base qO.left (by omega) (by omega) (by omega)).mono ?_
 rintro e w1 ⟨rfl,v1⟩
 replace hB:=hB.mka v1 (fun r hr=>hnew r (List.mem_append_left _ hr))
 replace qO:=((v1.left ([rwPerson x.ps,rwTerm x.ts]++([rwStr x.pl,rwWay x.ws]++([rwStay x.st]++([rwMark x.se]++([rwMark x.ha])))))).own qO).right
 obtain⟨x0,x1,x2,x3,x4,x5,x6,x7,x8,x9⟩:=hB.c10
 go_wp2_with fail
 refine(markPeople_any x.ps x.ts (k+3*(x.rs.l.length:Int)) _ base qO.left (by omega) (by omega) (by omega) (by omega)).mono ?_
 rintro e w2 ⟨rfl,v2⟩
 replace hB:=hB.mka v2 (fun r hr=>hnew r (List.mem_append_right _ (List.mem_append_left _ hr)))
 replace qO:=((v2.left ([rwStr x.pl,rwWay x.ws]++([rwStay x.st]++([rwMark x.se]++([rwMark x.ha]))))).own qO).right
 obtain⟨x0,x1,x2,x3,x4,x5,x6,x7,x8,x9⟩:=hB.c10
 go_wp2_with fail
 refine(markLand_any x.pl x.ws (k+3*(x.rs.l.length:Int)+(3*(x.ps.l.length:Int)+4*(x.ts.l.length:Int))) _ base qO.left (by omega) (by omega) (by omega) (by omega)).mono ?_
 rintro e w3 ⟨rfl,v3⟩
 replace hB:=hB.mka v3 (fun r hr=>hnew r (List.mem_append_right _ (List.mem_append_right _ (List.mem_append_left _ hr))))
 replace qO:=((v3.left ([rwStay x.st]++([rwMark x.se]++([rwMark x.ha])))).own qO).right
 obtain⟨x0,x1,x2,x3,x4,x5,x6,x7,x8,x9⟩:=hB.c10
 go_wp2_with fail
 refine(markStay_s x.st (k+3*(x.rs.l.length:Int)+(3*(x.ps.l.length:Int)+4*(x.ts.l.length:Int))+((x.pl.l.length:Int)+3*(x.ws.l.length:Int))) _ base (qO.left.each _ (by simp)) (by omega) (by omega) (by omega)).mono ?_
 rintro e w4 ⟨rfl,v4⟩
 replace hB:=hB.mka v4 (fun r hr=>hnew r (List.mem_append_right _ (List.mem_append_right _ (List.mem_append_right _ (List.mem_append_left _ hr)))))
 replace qO:=((v4.left ([rwMark x.se]++([rwMark x.ha]))).own qO).right
 obtain⟨x0,x1,x2,x3,x4,x5,x6,x7,x8,x9⟩:=hB.c10
 go_wp2_with fail
 refine(markMark_s x.se (k+3*(x.rs.l.length:Int)+(3*(x.ps.l.length:Int)+4*(x.ts.l.length:Int))+((x.pl.l.length:Int)+3*(x.ws.l.length:Int))+3*(x.st.l.length:Int)) _ base (qO.left.each _ (by simp)) (by omega) (by omega) (by omega)).mono ?_
 rintro e w5 ⟨rfl,v5⟩
 replace hB:=hB.mka v5 (fun r hr=>hnew r (List.mem_append_right _ (List.mem_append_right _ (List.mem_append_right _ (List.mem_append_right _ (List.mem_append_left _ hr))))))
 replace qO:=((v5.left ([rwMark x.ha])).own qO).right
 obtain⟨x0,x1,x2,x3,x4,x5,x6,x7,x8,x9⟩:=hB.c10
 go_wp2_with fail
 refine(markMark_s x.ha (k+3*(x.rs.l.length:Int)+(3*(x.ps.l.length:Int)+4*(x.ts.l.length:Int))+((x.pl.l.length:Int)+3*(x.ws.l.length:Int))+3*(x.st.l.length:Int)+3*(x.se.l.length:Int)) _ base (qO.each _ (by simp)) (by omega) (by omega) (by omega)).mono ?_
 rintro e w6 ⟨rfl,v6⟩
 replace hB:=hB.mka v6 (fun r hr=>hnew r (List.mem_append_right _ (List.mem_append_right _ (List.mem_append_right _ (List.mem_append_right _ (List.mem_append_right _ hr))))))
 go_wp2;go_ret;exact⟨ret_int (by omega),(MkA.up u).trans (v1.both (v2.both (v3.both (v4.both (v5.both v6)))))⟩
end Go.Proofs.YtihcmhmanfobcaaGreatDoor
