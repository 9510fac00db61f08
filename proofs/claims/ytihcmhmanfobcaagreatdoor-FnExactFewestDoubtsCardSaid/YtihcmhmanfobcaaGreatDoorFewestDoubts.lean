/- Marks as changes of rows; evidence of equal parts: what every law about evidence wants. -/
import Derived.Test.YtihcmhmanfobcaaGreatDoorEvr
import Derived.Test.YtihcmhmanfobcaaGreatDoorCs
import Derived.Test.YtihcmhmanfobcaaGreatDoorFdJ
import Derived.Test.YtihcmhmanfobcaaGreatDoorFdS
import Derived.Deep.RegionHeld3
set_option maxHeartbeats 16000000
set_option maxRecDepth 100000
namespace Go.Proofs.YtihcmhmanfobcaaGreatDoor
open Go.RowKit Go.Sort
theorem up_lt{w:World}{o:Obj}(_:Up w (w.alloc o)):w.heap.size<(w.alloc o).heap.size:=by simp
theorem Mk.facts{w w':World}{b0 b1:Nat}(m:Mk b0 b1 w w'):w'.os=w.os∧w'.tape=w.tape∧w'.output=w.output∧w.heap.size≤w'.heap.size∧∀k,k<w.heap.size→¬ (b0≤k∧k<b1)→w'.heap[k]?=w.heap[k]?:=by
 induction m with
 | refl=>exact⟨rfl,rfl,rfl,Nat.le_refl _,fun _ _ _=>rfl⟩
 | step m hg hb ih =>
   obtain⟨a,b,c,d,e⟩:=ih
   refine⟨hg.os.trans a,hg.tape.trans b,hg.output.trans c,Nat.le_trans d hg.size,fun k hk hne=>?_⟩
   rw[hg.block k (Nat.lt_of_lt_of_le hk d) (fun e=>hne (hb _ e.symm)),e k hk hne]
theorem Mk.mka{w w':World}{g:Nat}{r:Rw}{ys:List Value}(m:Mk g (g+1) w w')(hb:r.v.ownBlock=some g)(h':∀b,r.own w b→w'.ownsRow b r.e r.sz r.v r.n ys):MkA w w' [r] [⟨r.e,r.sz,r.v,r.n,ys⟩]:=by
 obtain⟨a,b,c,d,e⟩:=m.facts
 exact⟨a,b,c,d,fun k hk hn=>e k hk (fun h=>hn r (by simp) (by rw[hb,show k=g by omega])),rfl,fun b hb q hq=>by
  simp only[List.mem_singleton]at hq
  subst hq;exact h' b (hb.each r (by simp))⟩
theorem evB_same'{x x':Wd}{s s':Sl Dd}{g g':Sl Fm}{q q':Sl (Sl ByteArray)}(e:EvE x x' s s' g g' q q'):evB x'.p (s'.l.map Dd.p) g'.l q'.l=evB x.p (s.l.map Dd.p) g.l q.l:=by
 have h:q'.l.map (·.l)=q.l.map (·.l):=e.d
 have h1:phsB q'.l=phsB q.l:=by
  have f:∀l:List (Sl ByteArray),phsB l=(l.map (·.l)).all phB:=fun l=>by simp[phsB,List.all_map,Function.comp_def]
  rw[f,f,h]
 have h2:q'.l.length=q.l.length:=by have:=congrArg List.length h;simpa using this
 unfold evB
 rw[e.a,e.b,afB_same e.c,h1,h2]
theorem evC_same{x x':Wd}{s s':Sl Dd}{g g':Sl Fm}{q q':Sl (Sl ByteArray)}(e:EvE x x' s s' g g' q q')(i:Int):evC x'.p (s'.l.map Dd.p) g'.l q'.l i=evC x.p (s.l.map Dd.p) g.l q.l i:=by unfold evC;rw[evB_same' e,e.b]
def rwIn(s:Sl Int):Rw:=⟨2,1,.slice s.A s.l.length s.c,s.l.length,s.l.flatMap intCells⟩
def InPost(w:World)(S:List Int)(c:Int)(e:Ending)(w':World):Prop :=
 ∃y:Sl Int,e=.returned (.tuple #[.slice y.A y.l.length y.c,.int .i64 c])∧y.l=S∧(rwIn y).own w' w.heap.size∧Up w w'
theorem rwIn_rd{w:World}{b:Nat}{y:Sl Int}(h:(rwIn y).own w b):RdI w b w.heap.size y.A y.l:=Rd.own int_len (show w.ownsRow b 2 1 (.slice y.A y.l.length y.c) y.l.length (y.l.flatMap intCells) from h)
theorem eqInA{y z:Sl Int}{w:World}{b b':Nat}(h:(rwIn y).own w b)(k:(rwIn z).own w b')(e:y.l=z.l)(hn:y.l.length≤1000) :
 Calls Tryz.prog 8 #[.slice y.A y.l.length y.c,.slice z.A z.l.length z.c] w fun e w'=>e=.returned (.bool true)∧Up w w' :=
 (eqInt64S_any y.A z.A y.l z.l y.c z.c _ _ _ _ w (rwIn_rd h) (Nat.le_refl _) (rwIn_rd k) (Nat.le_refl _) (by omega)).mono fun _ _ ⟨h1,h2⟩=>⟨by rw[h1,e,eqIs_self],h2⟩
def mInn(y:Sl Int)(k:Int):Sl Int:=⟨y.A,y.c,mkI k y.l.length⟩
theorem rwIn_m(y:Sl Int)(k:Int):rwIn (mInn y k)=⟨2,1,.slice y.A y.l.length y.c,y.l.length,(mkI k y.l.length).flatMap intCells⟩:=by simp[rwIn,mInn,mkI_len]
theorem markInA(y:Sl Int)(k:Int)(w:World)(b:Nat)(h:(rwIn y).own w b)(hn:y.l.length≤2000000)(h0:0≤k)(hk:k≤2000000) :
 Calls Tryz.prog 11 #[.slice y.A y.l.length y.c,.int .i64 k] w fun e w'=>e=.returned (.int .i64 (k+1*(y.l.length:Int)))∧MkA w w' [rwIn y] [rwIn (mInn y k)]:=by
 have ho:w.ownsRow b 2 1 (.slice y.A y.l.length y.c) y.l.length (y.l.flatMap intCells):=h
 rcases hA:(Value.slice y.A y.l.length y.c).ownBlock with _|g
 ·refine(markIntM_any y.A y.l.length y.c b _ k w ho 0 0 (fun g hg=>by rw[hA]at hg;cases hg) hn h0 (by omega)).mono fun e w' ⟨h1,h2,m⟩=>⟨by rw[h1,Int.one_mul],?_⟩
  rw[rwIn_m];have hl:y.l.length=0:=by
   rcases ho.2 with⟨-,hl⟩|⟨g,cap,cur,hv,-⟩
   ·exact hl
   ·rw[hv]at hA;simp[Value.ownBlock]at hA
  obtain⟨a,b,c,d,e⟩:=m.facts
  refine⟨a,b,c,d,fun k hk _=>e k hk (by omega),rfl,fun b hb q hq=>?_⟩
  simp only[List.mem_singleton]at hq
  subst hq;have h3:w.ownsRow b 2 1 (.slice y.A y.l.length y.c) y.l.length (y.l.flatMap intCells):=hb.each (rwIn y) (by simp)
  have h4:y.l=[]:=List.eq_nil_of_length_eq_zero hl
  refine own_same (w:=w) ?_ (fun g hg=>by rw[hA]at hg;cases hg)
  show w.ownsRow b 2 1 (.slice y.A y.l.length y.c) y.l.length ((mkI k y.l.length).flatMap intCells)
  rw[hl,show mkI k 0=[] from rfl]
  rw[h4]at h3;exact h3
 ·refine(markIntM_any y.A y.l.length y.c b _ k w ho g (g+1) (fun g' hg=>by rw[hA]at hg;cases hg;omega) hn h0 (by omega)).mono fun e w' ⟨h1,h2,m⟩=>⟨by rw[h1,Int.one_mul],?_⟩
  rw[rwIn_m];refine m.mka (r:=rwIn y) hA fun b' hb'=>?_
  have h3:w.ownsRow b' 2 1 (.slice y.A y.l.length y.c) y.l.length (y.l.flatMap intCells):=hb'
  refine⟨h2.1,?_⟩
  rcases h2.2 with hn|⟨g2,cap,cur,hv,-,rest⟩
  ·exact .inl hn
  ·exact .inr ⟨g2,cap,cur,hv,(World.ownsRow.lt h3 g2 (by rw[hv];rfl)).1,rest⟩
theorem heldInA(y:Sl Int)(k:Int)(w:World)(b:Nat)(h:(rwIn (mInn y k)).own w b)(hn:y.l.length≤2000000)(h0:0≤k)(hk:k≤2000000) :
 Calls Tryz.prog 12 #[.slice y.A y.l.length y.c,.int .i64 k] w fun e w'=>e=.returned (.int .i64 (k+1*(y.l.length:Int)))∧w=w' :=
 (heldInt64S_any y.A y.l.length y.c _ _ k w (rwIn_rd h) hn h0 hk).mono fun _ _ ⟨h1,h2⟩=>⟨by rw[h1,Int.one_mul],h2⟩
noncomputable abbrev ansFewestDoubts:=fdR
theorem fwB_len(ok:Nat→Bool)(k:Nat):((fwB ok k).getD []).length≤5:=by
 rcases h:fwB ok k with _|b
 ·simp
 ·obtain⟨s,-,e⟩:=fwB_mbs ok k b h
  rw[e];exact mbs_len s
theorem ansFewestDoubts_len(x:Pw)(ds:List Pd)(fs:List Fm)(q:List (Sl ByteArray))(i:Int):(ansFewestDoubts x ds fs q i).1.length≤1000:=by
 unfold ansFewestDoubts fdR
 split
 ·split
  ·exact Nat.le_trans (fwB_len _ _) (by omega)
  ·simp
 ·simp
theorem fdR_same{x x':Wd}{s s':Sl Dd}{g g':Sl Fm}{q q':Sl (Sl ByteArray)}(e:EvE x x' s s' g g' q q')(i:Int):fdR x'.p (s'.l.map Dd.p) g'.l q'.l i=fdR x.p (s.l.map Dd.p) g.l q.l i:=by
 unfold fdR
 rw[evC_same e,e.a,e.b]
theorem own_In{w w':World}{S:List Int}{c:Int}{v:Value}{e:Ending}(he:e=.returned (.tuple #[v,.int .i64 c]))(ho:w'.ownsRow w.heap.size 2 1 v S.length (S.flatMap intCells))(u:Up w w'):InPost w S c e w':=by
 obtain⟨A,c',rfl,-,-,-,-⟩:=own_form ho
 exact⟨⟨A,c',S⟩,he,rfl,ho,u⟩
theorem specFewestDoubtsE{x xa:Wd}{s sa:Sl Dd}{g ga:Sl Fm}{q qa:Sl (Sl ByteArray)}(i:Int){S:List Int}{c:Int}(hc:(S,c)=ansFewestDoubts x.p (s.l.map Dd.p) g.l q.l i){lo hi:Nat}{w:World}(e:EvE x xa s sa g ga q qa)(r:EvR w lo hi xa sa ga qa) :
 Calls Tryz.prog 5 #[.agg #[.slice xa.rs.A xa.rs.l.length xa.rs.c,.int .i64 xa.fr,.int .i64 xa.to_,.slice xa.ps.A xa.ps.l.length xa.ps.c,.slice xa.ts.A xa.ts.l.length xa.ts.c,.slice xa.pl.A xa.pl.l.length xa.pl.c,.slice xa.ws.A xa.ws.l.length xa.ws.c,.slice xa.st.A xa.st.l.length xa.st.c,.slice xa.se.A xa.se.l.length xa.se.c,.slice xa.ha.A xa.ha.l.length xa.ha.c,.slice sa.A sa.l.length sa.c,.slice ga.A ga.l.length ga.c,.slice qa.A qa.l.length qa.c],.int .i64 i] w (InPost w S c):=by
 refine(specFewestDoubts_any xa sa ga qa i lo hi w r.a r.b r.c r.d).mono fun e1 w1 ⟨v,h1,h2,h3⟩=>?_
 rw[fdR_same e,← (show(S,c)=fdR x.p (s.l.map Dd.p) g.l q.l i from hc)]at h1 h2;exact own_In h1 h2 h3
theorem implFewestDoubtsE{x xa:Wd}{s sa:Sl Dd}{g ga:Sl Fm}{q qa:Sl (Sl ByteArray)}(i:Int){S:List Int}{c:Int}(hc:(S,c)=ansFewestDoubts x.p (s.l.map Dd.p) g.l q.l i){lo hi:Nat}{w:World}(e:EvE x xa s sa g ga q qa)(r:EvR w lo hi xa sa ga qa) :
 Calls Tryz.prog 7 #[.agg #[.slice xa.rs.A xa.rs.l.length xa.rs.c,.int .i64 xa.fr,.int .i64 xa.to_,.slice xa.ps.A xa.ps.l.length xa.ps.c,.slice xa.ts.A xa.ts.l.length xa.ts.c,.slice xa.pl.A xa.pl.l.length xa.pl.c,.slice xa.ws.A xa.ws.l.length xa.ws.c,.slice xa.st.A xa.st.l.length xa.st.c,.slice xa.se.A xa.se.l.length xa.se.c,.slice xa.ha.A xa.ha.l.length xa.ha.c,.slice sa.A sa.l.length sa.c,.slice ga.A ga.l.length ga.c,.slice qa.A qa.l.length qa.c],.int .i64 i] w (InPost w S c):=by
 refine(implFewestDoubts_any xa sa ga qa i lo hi w r.a r.b r.c r.d).mono fun e1 w1 ⟨v,h1,h2,h3⟩=>?_
 rw[fdR_same e,← (show(S,c)=fdR x.p (s.l.map Dd.p) g.l q.l i from hc)]at h1 h2;exact own_In h1 h2 h3
theorem fnExactFewestDoubts_walk(x:Wd)(s:Sl Dd)(g:Sl Fm)(q:Sl (Sl ByteArray))(i:Int)(w:World)(h1:RawW w 0 w.heap.size x)(h2:RawDd w 0 w.heap.size s)(h3:RawF w 0 w.heap.size g)(h4:RawPh w 0 w.heap.size q)(_h5:True) :
 Calls Tryz.prog 3 #[.agg #[.slice x.rs.A x.rs.l.length x.rs.c,.int .i64 x.fr,.int .i64 x.to_,.slice x.ps.A x.ps.l.length x.ps.c,.slice x.ts.A x.ts.l.length x.ts.c,.slice x.pl.A x.pl.l.length x.pl.c,.slice x.ws.A x.ws.l.length x.ws.c,.slice x.st.A x.st.l.length x.st.c,.slice x.se.A x.se.l.length x.se.c,.slice x.ha.A x.ha.l.length x.ha.c,.slice s.A s.l.length s.c,.slice g.A g.l.length g.c,.slice q.A q.l.length q.c],.int .i64 i] w fun e w'=>e=.returned (.bool true)∧Up w w':=by
 have u:=Up.alloc w (.cells #[.slice x.rs.A x.rs.l.length x.rs.c,.int .i64 x.fr,.int .i64 x.to_,.slice x.ps.A x.ps.l.length x.ps.c,.slice x.ts.A x.ts.l.length x.ts.c,.slice x.pl.A x.pl.l.length x.pl.c,.slice x.ws.A x.ws.l.length x.ws.c,.slice x.st.A x.st.l.length x.st.c,.slice x.se.A x.se.l.length x.se.c,.slice x.ha.A x.ha.l.length x.ha.c,.slice s.A s.l.length s.c,.slice g.A g.l.length g.c,.slice q.A q.l.length q.c] 41)
 have hA:=Bx.new w #[.slice x.rs.A x.rs.l.length x.rs.c,.int .i64 x.fr,.int .i64 x.to_,.slice x.ps.A x.ps.l.length x.ps.c,.slice x.ts.A x.ts.l.length x.ts.c,.slice x.pl.A x.pl.l.length x.pl.c,.slice x.ws.A x.ws.l.length x.ws.c,.slice x.st.A x.st.l.length x.st.c,.slice x.se.A x.se.l.length x.se.c,.slice x.ha.A x.ha.l.length x.ha.c,.slice s.A s.l.length s.c,.slice g.A g.l.length g.c,.slice q.A q.l.length q.c] 41
 have hsz:w.heap.size+1≤_:=up_lt u
 have HS:=qh (fun(wx:World) (u:Up w wx)=>szEvidence_any x s g q 0 w.heap.size 1048576 wx (h1.up u) (h2.up u) (h3.up u) (h4.up u) (by omega) (by omega))
 have HR:=qh (fun(m:SmEv x s g q)=>EvR.raw h1 h2 h3 h4 m)
 clear h1 h2 h3 h4;go_enter Tryz.func3,Tryz.ntmps3
 go_wp2_with fail
 generalize w.alloc (.cells #[.slice x.rs.A x.rs.l.length x.rs.c,.int .i64 x.fr,.int .i64 x.to_,.slice x.ps.A x.ps.l.length x.ps.c,.slice x.ts.A x.ts.l.length x.ts.c,.slice x.pl.A x.pl.l.length x.pl.c,.slice x.ws.A x.ws.l.length x.ws.c,.slice x.st.A x.st.l.length x.st.c,.slice x.se.A x.se.l.length x.se.c,.slice x.ha.A x.ha.l.length x.ha.c,.slice s.A s.l.length s.c,.slice g.A g.l.length g.c,.slice q.A q.l.length q.c] 41)=W0 at *
 refine(HS.out _ u).mono ?_
 rintro e w1 ⟨z,rfl,hz,sm,v⟩
 replace u:=u.trans v;replace hA:=hA.up v;replace hsz:=Nat.le_trans hsz v.size;clear v HS;obtain⟨x0,x1,x2,x3,x4,x5,x6,x7,x8,x9,x10,x11,x12⟩:=hA.c13
 by_cases c:z<0
 ·have hd:decide (z<0)=true:=by simpa using c
  clear sm;go_wp2;go_ret;exact⟨rfl,u⟩
 have hd:decide (z<0)=false:=by simpa using c
 have hn:nEv x s g q≤1048576:=by have:=sm.resolve_left c;omega
 have HN:=qh hn
 have R:=qh (HR.out (ev_sm (by omega)))
 clear hn sm HR;have HT:=qh (fun(wx:World) (u:Up w wx)=>toEvidence_any x s g q 0 w.heap.size wx (R.out.a.up u) (R.out.b.up u) (R.out.c.up u) (R.out.d.up u))
 obtain⟨S,cc,hcc⟩:∃S c,(S,c)=ansFewestDoubts x.p (s.l.map Dd.p) g.l q.l i:=⟨_,_,rfl⟩
 have HC:=qh hcc
 have HSL:Hid (S.length≤1000):=qh (by have:=ansFewestDoubts_len x.p (s.l.map Dd.p) g.l q.l i;rw[← hcc]at this;exact this)
 clear hcc;have hne:(cc != cc)=false:=by simp
 go_wp2_with fail
 refine(HT.out _ u).mono ?_
 rintro e w2 ⟨xa,sa,ga,qa,rfl,e1,e2,e3,e4,oN,v⟩
 have Ea:=qh (show EvE x xa s sa g ga q qa from⟨e1,e2,e3,e4⟩)
 clear e1 e2 e3 e4;have Ra:=qh (EvR.own oN Ea.out R.out)
 clear oN;replace u:=u.trans v;replace hA:=hA.up v;replace hsz:=Nat.le_trans hsz v.size;clear v;obtain⟨x0,x1,x2,x3,x4,x5,x6,x7,x8,x9,x10,x11,x12⟩:=hA.c13
 go_wp2_with fail
 refine(specFewestDoubtsE i HC.out Ea.out Ra.out).mono ?_
 rintro e w3 ⟨y0,rfl,hy0,oN,v⟩
 have Hy0:=qh hy0
 have HLy0:Hid (y0.l.length≤1000):=qh (by rw[hy0];exact HSL.out)
 clear hy0;have oN:=OwA.one oN
 have oA:=oN.base hsz
 clear oN;replace u:=u.trans v;replace hA:=hA.up v;replace hsz:=Nat.le_trans hsz v.size;clear v;obtain⟨x0,x1,x2,x3,x4,x5,x6,x7,x8,x9,x10,x11,x12⟩:=hA.c13
 go_wp2_with fail
 refine(HT.out _ u).mono ?_
 rintro e w5 ⟨xb,sb,gb,qb,rfl,e1,e2,e3,e4,oN,v⟩
 have Eb:=qh (show EvE x xb s sb g gb q qb from⟨e1,e2,e3,e4⟩)
 clear e1 e2 e3 e4;have nXX:=qh (show NB (rowsEv xb sb gb qb) w5.heap.size from oN.new (Nat.le_refl _))
 have oM:=oA.append v hsz oN
 clear oN oA;have oA:=oM
 clear oM;replace u:=u.trans v;replace hA:=hA.up v;replace hsz:=Nat.le_trans hsz v.size;clear v;have hX:=Bx.new w5 #[.slice xb.rs.A xb.rs.l.length xb.rs.c,.int .i64 xb.fr,.int .i64 xb.to_,.slice xb.ps.A xb.ps.l.length xb.ps.c,.slice xb.ts.A xb.ts.l.length xb.ts.c,.slice xb.pl.A xb.pl.l.length xb.pl.c,.slice xb.ws.A xb.ws.l.length xb.ws.c,.slice xb.st.A xb.st.l.length xb.st.c,.slice xb.se.A xb.se.l.length xb.se.c,.slice xb.ha.A xb.ha.l.length xb.ha.c,.slice sb.A sb.l.length sb.c,.slice gb.A gb.l.length gb.c,.slice qb.A qb.l.length qb.c] 63
 have v:=Up.alloc w5 (.cells #[.slice xb.rs.A xb.rs.l.length xb.rs.c,.int .i64 xb.fr,.int .i64 xb.to_,.slice xb.ps.A xb.ps.l.length xb.ps.c,.slice xb.ts.A xb.ts.l.length xb.ts.c,.slice xb.pl.A xb.pl.l.length xb.pl.c,.slice xb.ws.A xb.ws.l.length xb.ws.c,.slice xb.st.A xb.st.l.length xb.st.c,.slice xb.se.A xb.se.l.length xb.se.c,.slice xb.ha.A xb.ha.l.length xb.ha.c,.slice sb.A sb.l.length sb.c,.slice gb.A gb.l.length gb.c,.slice qb.A qb.l.length qb.c] 63)
 replace u:=u.trans v;replace hA:=hA.up v;replace hsz:=Nat.le_trans hsz v.size;replace oA:=oA.up v;have szX:=up_lt v
 clear v;go_wp2_with fail
 generalize w5.alloc (.cells #[.slice xb.rs.A xb.rs.l.length xb.rs.c,.int .i64 xb.fr,.int .i64 xb.to_,.slice xb.ps.A xb.ps.l.length xb.ps.c,.slice xb.ts.A xb.ts.l.length xb.ts.c,.slice xb.pl.A xb.pl.l.length xb.pl.c,.slice xb.ws.A xb.ws.l.length xb.ws.c,.slice xb.st.A xb.st.l.length xb.st.c,.slice xb.se.A xb.se.l.length xb.se.c,.slice xb.ha.A xb.ha.l.length xb.ha.c,.slice sb.A sb.l.length sb.c,.slice gb.A gb.l.length gb.c,.slice qb.A qb.l.length qb.c] 63)=W6 at *
 obtain⟨dd0,dd1,dd2,dd3,dd4,dd5,dd6,dd7,dd8,dd9,dd10,dd11,dd12⟩:=hX.c13
 go_wp2_with fail
 refine(implFewestDoubtsE i HC.out Eb.out (EvR.own oA.right Eb.out R.out)).mono ?_
 rintro e w7 ⟨y1,rfl,hy1,oN,v⟩
 have Hy1:=qh hy1
 have HLy1:Hid (y1.l.length≤1000):=qh (by rw[hy1];exact HSL.out)
 clear hy1;have oN:=OwA.one oN
 have nGX:=qh (show NB [rwIn y1] w5.heap.size from fun r hr e=>by have:=(oN.lt hr e).1;omega)
 have oM:=oA.append v hsz oN
 clear oN oA;have oA:=oM
 clear oM;replace u:=u.trans v;replace hA:=hA.up v;replace hsz:=Nat.le_trans hsz v.size;replace hX:=hX.up v;replace szX:=Nat.lt_of_lt_of_le szX v.size;clear v dd0 dd1 dd2 dd3 dd4 dd5 dd6 dd7 dd8 dd9 dd10 dd11 dd12;go_wp2_with fail
 refine(eqInA oA.right.hd oA.left.left.hd (by rw[Hy1.out,Hy0.out]) HLy1.out).mono ?_
 rintro e w9 ⟨rfl,v⟩
 replace u:=u.trans v;replace hA:=hA.up v;replace hsz:=Nat.le_trans hsz v.size;replace hX:=hX.up v;replace szX:=Nat.lt_of_lt_of_le szX v.size;replace oA:=oA.up v;clear v;obtain⟨x0,x1,x2,x3,x4,x5,x6,x7,x8,x9,x10,x11,x12⟩:=hA.c13
 obtain⟨dd0,dd1,dd2,dd3,dd4,dd5,dd6,dd7,dd8,dd9,dd10,dd11,dd12⟩:=hX.c13
 go_wp2_with fail
 have hd6:Up w9 w9.drew:=(Up.refl _).drew
 have HT6:=qh (fun(wx:World) (hx:Up w9 wx)=>HT.out wx (u.trans hx))
 have RB:=qh (EvR.own oA.left.right Eb.out R.out)
 have KP:∀w':World,Up w9 w'→(Up w9 w'∧w'.cell? ⟨w.heap.size,0,none⟩=some (.slice x.rs.A x.rs.l.length x.rs.c)∧w'.cell? ⟨w.heap.size,1,none⟩=some (.int .i64 x.fr)∧w'.cell? ⟨w.heap.size,2,none⟩=some (.int .i64 x.to_)∧w'.cell? ⟨w.heap.size,3,none⟩=some (.slice x.ps.A x.ps.l.length x.ps.c)∧w'.cell? ⟨w.heap.size,4,none⟩=some (.slice x.ts.A x.ts.l.length x.ts.c)∧w'.cell? ⟨w.heap.size,5,none⟩=some (.slice x.pl.A x.pl.l.length x.pl.c)∧w'.cell? ⟨w.heap.size,6,none⟩=some (.slice x.ws.A x.ws.l.length x.ws.c)∧w'.cell? ⟨w.heap.size,7,none⟩=some (.slice x.st.A x.st.l.length x.st.c)∧w'.cell? ⟨w.heap.size,8,none⟩=some (.slice x.se.A x.se.l.length x.se.c)∧w'.cell? ⟨w.heap.size,9,none⟩=some (.slice x.ha.A x.ha.l.length x.ha.c)∧w'.cell? ⟨w.heap.size,10,none⟩=some (.slice s.A s.l.length s.c)∧w'.cell? ⟨w.heap.size,11,none⟩=some (.slice g.A g.l.length g.c)∧w'.cell? ⟨w.heap.size,12,none⟩=some (.slice q.A q.l.length q.c)∧w'.cell? ⟨w5.heap.size,0,none⟩=some (.slice xb.rs.A xb.rs.l.length xb.rs.c)∧w'.cell? ⟨w5.heap.size,1,none⟩=some (.int .i64 xb.fr)∧w'.cell? ⟨w5.heap.size,2,none⟩=some (.int .i64 xb.to_)∧w'.cell? ⟨w5.heap.size,3,none⟩=some (.slice xb.ps.A xb.ps.l.length xb.ps.c)∧w'.cell? ⟨w5.heap.size,4,none⟩=some (.slice xb.ts.A xb.ts.l.length xb.ts.c)∧w'.cell? ⟨w5.heap.size,5,none⟩=some (.slice xb.pl.A xb.pl.l.length xb.pl.c)∧w'.cell? ⟨w5.heap.size,6,none⟩=some (.slice xb.ws.A xb.ws.l.length xb.ws.c)∧w'.cell? ⟨w5.heap.size,7,none⟩=some (.slice xb.st.A xb.st.l.length xb.st.c)∧w'.cell? ⟨w5.heap.size,8,none⟩=some (.slice xb.se.A xb.se.l.length xb.se.c)∧w'.cell? ⟨w5.heap.size,9,none⟩=some (.slice xb.ha.A xb.ha.l.length xb.ha.c)∧w'.cell? ⟨w5.heap.size,10,none⟩=some (.slice sb.A sb.l.length sb.c)∧w'.cell? ⟨w5.heap.size,11,none⟩=some (.slice gb.A gb.l.length gb.c)∧w'.cell? ⟨w5.heap.size,12,none⟩=some (.slice qb.A qb.l.length qb.c)):=fun w' v=>⟨v,v.cell x0,v.cell x1,v.cell x2,v.cell x3,v.cell x4,v.cell x5,v.cell x6,v.cell x7,v.cell x8,v.cell x9,v.cell x10,v.cell x11,v.cell x12,v.cell dd0,v.cell dd1,v.cell dd2,v.cell dd3,v.cell dd4,v.cell dd5,v.cell dd6,v.cell dd7,v.cell dd8,v.cell dd9,v.cell dd10,v.cell dd11,v.cell dd12⟩
 have hr6:Up w9 w9:=Up.refl _
 have HQ0:=qh (fun(xc:Wd) (sc:Sl Dd) (gc:Sl Fm) (qc:Sl (Sl ByteArray)) (wy wx:World) (lo hi:Nat) (h3:Up w9 wy) (r:EvR wy lo hi xc sc gc qc) (e:EvE x xc s sc g gc q qc) (hx:Up wy wx)=>eqEv_e (w:=wx) ((RB.out.up h3).up hx) (r.up hx) (Eb.out.symm.trans e))
 go_region_held3 (fun w'=>Up w9 w'∧w'.cell? ⟨w.heap.size,0,none⟩=some (.slice x.rs.A x.rs.l.length x.rs.c)∧w'.cell? ⟨w.heap.size,1,none⟩=some (.int .i64 x.fr)∧w'.cell? ⟨w.heap.size,2,none⟩=some (.int .i64 x.to_)∧w'.cell? ⟨w.heap.size,3,none⟩=some (.slice x.ps.A x.ps.l.length x.ps.c)∧w'.cell? ⟨w.heap.size,4,none⟩=some (.slice x.ts.A x.ts.l.length x.ts.c)∧w'.cell? ⟨w.heap.size,5,none⟩=some (.slice x.pl.A x.pl.l.length x.pl.c)∧w'.cell? ⟨w.heap.size,6,none⟩=some (.slice x.ws.A x.ws.l.length x.ws.c)∧w'.cell? ⟨w.heap.size,7,none⟩=some (.slice x.st.A x.st.l.length x.st.c)∧w'.cell? ⟨w.heap.size,8,none⟩=some (.slice x.se.A x.se.l.length x.se.c)∧w'.cell? ⟨w.heap.size,9,none⟩=some (.slice x.ha.A x.ha.l.length x.ha.c)∧w'.cell? ⟨w.heap.size,10,none⟩=some (.slice s.A s.l.length s.c)∧w'.cell? ⟨w.heap.size,11,none⟩=some (.slice g.A g.l.length g.c)∧w'.cell? ⟨w.heap.size,12,none⟩=some (.slice q.A q.l.length q.c)∧w'.cell? ⟨w5.heap.size,0,none⟩=some (.slice xb.rs.A xb.rs.l.length xb.rs.c)∧w'.cell? ⟨w5.heap.size,1,none⟩=some (.int .i64 xb.fr)∧w'.cell? ⟨w5.heap.size,2,none⟩=some (.int .i64 xb.to_)∧w'.cell? ⟨w5.heap.size,3,none⟩=some (.slice xb.ps.A xb.ps.l.length xb.ps.c)∧w'.cell? ⟨w5.heap.size,4,none⟩=some (.slice xb.ts.A xb.ts.l.length xb.ts.c)∧w'.cell? ⟨w5.heap.size,5,none⟩=some (.slice xb.pl.A xb.pl.l.length xb.pl.c)∧w'.cell? ⟨w5.heap.size,6,none⟩=some (.slice xb.ws.A xb.ws.l.length xb.ws.c)∧w'.cell? ⟨w5.heap.size,7,none⟩=some (.slice xb.st.A xb.st.l.length xb.st.c)∧w'.cell? ⟨w5.heap.size,8,none⟩=some (.slice xb.se.A xb.se.l.length xb.se.c)∧w'.cell? ⟨w5.heap.size,9,none⟩=some (.slice xb.ha.A xb.ha.l.length xb.ha.c)∧w'.cell? ⟨w5.heap.size,10,none⟩=some (.slice sb.A sb.l.length sb.c)∧w'.cell? ⟨w5.heap.size,11,none⟩=some (.slice gb.A gb.l.length gb.c)∧w'.cell? ⟨w5.heap.size,12,none⟩=some (.slice qb.A qb.l.length qb.c))
  ((refine KP _ ?_;first|assumption|exact Up.drew (by assumption)))
  (first
    |(go_at_call 6
      (with_reducible refine(HT6.out _ (by assumption)).mono ?_)
      rintro e wy ⟨xc,sc,gc,qc,rfl,e1,e2,e3,e4,oN,v3⟩
      have hS3:Up w9 wy:=Up.trans (by assumption) v3
      have EC:=qh (show EvE x xc s sc g gc q qc from⟨e1,e2,e3,e4⟩)
      have RC:=qh (EvR.own oN EC.out R.out)
      have HQ:=qh (fun(wx:World) (hx:Up wy wx)=>HQ0.out xc sc gc qc wy wx _ _ hS3 RC.out EC.out hx)
      have hZ:Up wy wy:=Up.refl _
      have hZd:Up wy wy.drew:=(Up.refl _).drew
      clear e1 e2 e3 e4 oN)
    |(go_at_call 9
      (with_reducible refine(HQ.out _ (by assumption)).mono ?_)
      rintro e w10 ⟨rfl,v5⟩
      have hS6:Up w9 w10:=Up.trans hS3 (Up.trans (by assumption) v5)))
 have v:Up w9 w10:=hS6
 clear HT6 RB HQ HQ0 RC EC hS3 hS6 hZ hZd hd6 hr6 KP;clear x0 x1 x2 x3 x4 x5 x6 x7 x8 x9 x10 x11 x12 dd0 dd1 dd2 dd3 dd4 dd5 dd6 dd7 dd8 dd9 dd10 dd11 dd12;replace u:=u.trans v;replace hA:=hA.up v;replace hsz:=Nat.le_trans hsz v.size;replace hX:=hX.up v;replace szX:=Nat.lt_of_lt_of_le szX v.size;replace oA:=oA.up v;clear v;have CB:=qh (show 0≤cEv xb sb gb qb∧1+cEv xb sb gb qb≤60000000 from⟨(cEv_le xb sb gb qb).1,by have:=(cEv_le xb sb gb qb).2;have:=Eb.out.n;have:=HN.out;omega⟩)
 have SB:=qh (show SmEv xb sb gb qb from ev_sm (by have:=Eb.out.n;have:=HN.out;omega))
 obtain⟨dd0,dd1,dd2,dd3,dd4,dd5,dd6,dd7,dd8,dd9,dd10,dd11,dd12⟩:=hX.c13
 go_wp2_with fail
 refine(markEvidence_any xb sb gb qb 1 _ _ oA.left.right SB.out (by omega) CB.out.2).mono ?_
 rintro e w11 ⟨rfl,m⟩
 have nXA:NB (rowsEv xb sb gb qb) w.heap.size:=fun r hr e=>by have:=(oA.left.right.lt hr e).1;omega
 replace u:=u.mka m oA.left.right (by omega)
 replace hA:=hA.mka m nXA;replace hX:=hX.mka m nXX.out;replace hsz:=Nat.le_trans hsz m.size;replace szX:=Nat.lt_of_lt_of_le szX m.size;have oM:=(m.frame ([rwIn y0]) ([rwIn y1])).own oA
 clear oA m nXA dd0 dd1 dd2 dd3 dd4 dd5 dd6 dd7 dd8 dd9 dd10 dd11 dd12;have oA:=oM
 clear oM;obtain⟨kx,hkx⟩:∃z,z=1+cEv xb sb gb qb:=⟨_,rfl⟩
 have hk0:decide (kx<0)=false:=by have:=CB.out;simp;omega
 rw[← hkx];clear hkx;go_wp2_with fail
 refine(eqInA oA.right.hd oA.left.left.hd (by rw[Hy1.out,Hy0.out]) HLy1.out).mono ?_
 rintro e w12 ⟨rfl,v⟩
 replace u:=u.trans v;replace hA:=hA.up v;replace hsz:=Nat.le_trans hsz v.size;replace hX:=hX.up v;replace szX:=Nat.lt_of_lt_of_le szX v.size;replace oA:=oA.up v;clear v;go_wp2_with fail
 refine(markInA y1 1 _ _ oA.right.hd (by have:=HLy1.out;omega) (by omega) (by omega)).mono ?_
 rintro e w13 ⟨rfl,m⟩
 have nGA:NB ([rwIn y1]) w.heap.size:=fun r hr e=>by have:=(oA.right.lt hr e).1;omega
 replace u:=u.mka m oA.right (by omega)
 replace hA:=hA.mka m nGA;replace hX:=hX.mka m nGX.out;replace hsz:=Nat.le_trans hsz m.size;replace szX:=Nat.lt_of_lt_of_le szX m.size;have oM:=(m.right _).own oA
 clear oA m nGA;have oA:=oM
 clear oM;obtain⟨km,hkm⟩:∃z:Int,z=1+1*(y1.l.length:Int):=⟨_,rfl⟩
 have HK:=qh hkm
 have hk1:decide (km<0)=false:=by simp;omega
 have hkk:(km != km)=false:=by simp
 rw[← hkm];clear hkm;go_wp2_with fail
 refine(heldInA y1 1 _ _ oA.right.hd (by have:=HLy1.out;omega) (by omega) (by omega)).mono ?_
 rintro e w14 ⟨rfl,rfl⟩
 rw[← HK.out];obtain⟨x0,x1,x2,x3,x4,x5,x6,x7,x8,x9,x10,x11,x12⟩:=hA.c13
 go_wp2_with fail
 refine(HT.out _ u).mono ?_
 rintro e w15 ⟨xd,sd,gd,qd,rfl,e1,e2,e3,e4,oN,v⟩
 have Ed:=qh (show EvE x xd s sd g gd q qd from⟨e1,e2,e3,e4⟩)
 clear e1 e2 e3 e4;have Rd':=qh (EvR.own oN Ed.out R.out)
 clear oN;replace u:=u.trans v;replace hA:=hA.up v;replace hsz:=Nat.le_trans hsz v.size;replace hX:=hX.up v;replace szX:=Nat.lt_of_lt_of_le szX v.size;replace oA:=oA.up v;clear v;go_wp2_with fail
 refine(implFewestDoubtsE i HC.out Ed.out Rd'.out).mono ?_
 rintro e w16 ⟨y2,rfl,hy2,oN,v⟩
 have Hy2:=qh hy2
 have HLy2:Hid (y2.l.length≤1000):=qh (by rw[hy2];exact HSL.out)
 clear hy2;have oN:=OwA.one oN
 have oM:=oA.append v hsz oN
 clear oN oA;have oA:=oM
 clear oM;replace u:=u.trans v;replace hA:=hA.up v;replace hsz:=Nat.le_trans hsz v.size;replace hX:=hX.up v;replace szX:=Nat.lt_of_lt_of_le szX v.size;clear v;go_wp2_with fail
 refine(eqInA oA.right.hd oA.left.left.left.hd (by rw[Hy2.out,Hy0.out]) HLy2.out).mono ?_
 rintro e w18 ⟨rfl,v⟩
 replace u:=u.trans v;replace hA:=hA.up v;replace hsz:=Nat.le_trans hsz v.size;replace hX:=hX.up v;replace szX:=Nat.lt_of_lt_of_le szX v.size;replace oA:=oA.up v;clear v;go_wp2_with fail
 refine(heldInA y1 1 _ _ oA.left.right.hd (by have:=HLy1.out;omega) (by omega) (by omega)).mono ?_
 rintro e w19 ⟨rfl,rfl⟩
 rw[← HK.out];go_wp2;go_ret;exact⟨rfl,u⟩
end Go.Proofs.YtihcmhmanfobcaaGreatDoor
