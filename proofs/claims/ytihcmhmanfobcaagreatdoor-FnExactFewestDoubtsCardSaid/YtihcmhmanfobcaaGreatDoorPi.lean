/- All sources of a deed, its own days, its good days: the program's. -/
import Derived.Test.YtihcmhmanfobcaaGreatDoorPh
import Derived.Test.YtihcmhmanfobcaaGreatDoorCs
import Derived.Test.YtihcmhmanfobcaaGreatDoorLib
import Derived.Maps.AppendAt
set_option maxHeartbeats 8000000
set_option maxRecDepth 100000
namespace Go.Proofs.YtihcmhmanfobcaaGreatDoor
open Go.RowKit Go.Sort
abbrev vPiX(x:Wd):Array Value:=#[.slice x.rs.A x.rs.l.length x.rs.c,.int .i64 x.fr,.int .i64 x.to_,.slice x.ps.A x.ps.l.length x.ps.c,.slice x.ts.A x.ts.l.length x.ts.c,.slice x.pl.A x.pl.l.length x.pl.c,.slice x.ws.A x.ws.l.length x.ws.c,.slice x.st.A x.st.l.length x.st.c,.slice x.se.A x.se.l.length x.se.c,.slice x.ha.A x.ha.l.length x.ha.c]
abbrev vPiD(d:Dd):Array Value:=#[.string d.nm,.slice d.da.A d.da.l.length d.da.c,.slice d.wi.A d.wi.l.length d.wi.c,.string d.pl,.string d.se,.string d.ha,.slice d.ci.A d.ci.l.length d.ci.c]
theorem OwA.push{w w':World}{base:Nat}{r r':Rw}{L:List Rw}(h:OwA w base (r :: L))(h':r'.own w' base)(hg:w.grownBy w' r.v.ownBlock)(hat:r'.v.ownBlock=r.v.ownBlock∨r'.v.ownBlock=some w.heap.size):OwA w' base (r' :: L):=by
 obtain⟨h1,h2⟩:=List.pairwise_cons.1 h.ap
 refine⟨fun q hq=>?_,List.pairwise_cons.2 ⟨fun b hb g hg' e=>?_,h2⟩⟩
 ·rcases List.mem_cons.1 hq with rfl|hq
  ·exact h'
  ·exact own_same (h.each q (by simp[hq])) fun g hgq=>hg.block g (h.lt (by simp[hq]) hgq).2 (fun e=>h1 q hq g e.symm hgq)
 ·rcases hat with q|q
  ·exact h1 b hb g (q ▸ hg') e
  ·rw[q]at hg'
   have:=(h.lt (r:=b) (by simp[hb]) e).2
   cases hg'
   omega
theorem checkEvidence_any(x:Wd)(s:Sl Dd)(g:Sl Fm)(q:Sl (Sl ByteArray))(i:Int)(lo hi:Nat)(w:World)(h:RdW w lo hi x)(h2:RdDd w lo hi s)(h3:SrF w lo hi g)(h4:SrPh w lo hi q) :
 Calls Tryz.prog 27 #[.agg #[.slice x.rs.A x.rs.l.length x.rs.c,.int .i64 x.fr,.int .i64 x.to_,.slice x.ps.A x.ps.l.length x.ps.c,.slice x.ts.A x.ts.l.length x.ts.c,.slice x.pl.A x.pl.l.length x.pl.c,.slice x.ws.A x.ws.l.length x.ws.c,.slice x.st.A x.st.l.length x.st.c,.slice x.se.A x.se.l.length x.se.c,.slice x.ha.A x.ha.l.length x.ha.c,.slice s.A s.l.length s.c,.slice g.A g.l.length g.c,.slice q.A q.l.length q.c],.int .i64 i] w fun e w'=>e=.returned (.int .i64 (evC x.p (s.l.map Dd.p) g.l q.l i))∧Up w w':=by
 have hsl:=h2.len
 obtain⟨b,hb⟩:∃z,z=evB x.p (s.l.map Dd.p) g.l q.l:=⟨_,rfl⟩
 obtain⟨bb,hbb⟩:∃z,z=inB i 0 ((s.l.length:Int)-1):=⟨_,rfl⟩
 have c1:=fun wx (u:Up w wx)=>implIsEvidence_any x s g q lo hi wx (h.up u) (h2.up u) (h3.up u) (h4.up u)
 have c2:=fun wx=>within_any i 0 ((s.l.length:Int)-1) wx
 simp only[← hb]at c1
 simp only[← hbb]at c2
 have K1:=qh c1
 have K2:=qh c2
 have HB:=qh (show evC x.p (s.l.map Dd.p) g.l q.l i=if b=true then(if bb=true then 0 else 2) else 1 by unfold evC;rw[hb,List.length_map,hbb])
 clear c1 c2 hb hbb h h2 h3 h4;have hw:IntKind.i64.wrap ((s.l.length:Int)-1)=(s.l.length:Int)-1:=IntWalk.i64_in _ (by omega)
 have u:=Up.alloc w (.cells #[.slice x.rs.A x.rs.l.length x.rs.c,.int .i64 x.fr,.int .i64 x.to_,.slice x.ps.A x.ps.l.length x.ps.c,.slice x.ts.A x.ts.l.length x.ts.c,.slice x.pl.A x.pl.l.length x.pl.c,.slice x.ws.A x.ws.l.length x.ws.c,.slice x.st.A x.st.l.length x.st.c,.slice x.se.A x.se.l.length x.se.c,.slice x.ha.A x.ha.l.length x.ha.c,.slice s.A s.l.length s.c,.slice g.A g.l.length g.c,.slice q.A q.l.length q.c] 63)
 have hB:=Bx.new w #[.slice x.rs.A x.rs.l.length x.rs.c,.int .i64 x.fr,.int .i64 x.to_,.slice x.ps.A x.ps.l.length x.ps.c,.slice x.ts.A x.ts.l.length x.ts.c,.slice x.pl.A x.pl.l.length x.pl.c,.slice x.ws.A x.ws.l.length x.ws.c,.slice x.st.A x.st.l.length x.st.c,.slice x.se.A x.se.l.length x.se.c,.slice x.ha.A x.ha.l.length x.ha.c,.slice s.A s.l.length s.c,.slice g.A g.l.length g.c,.slice q.A q.l.length q.c] 63
 go_enter Tryz.func27,Tryz.ntmps27
 go_wp2_with fail
 generalize w.alloc (.cells #[.slice x.rs.A x.rs.l.length x.rs.c,.int .i64 x.fr,.int .i64 x.to_,.slice x.ps.A x.ps.l.length x.ps.c,.slice x.ts.A x.ts.l.length x.ts.c,.slice x.pl.A x.pl.l.length x.pl.c,.slice x.ws.A x.ws.l.length x.ws.c,.slice x.st.A x.st.l.length x.st.c,.slice x.se.A x.se.l.length x.se.c,.slice x.ha.A x.ha.l.length x.ha.c,.slice s.A s.l.length s.c,.slice g.A g.l.length g.c,.slice q.A q.l.length q.c] 63)=W1 at *
 obtain⟨x0,x1,x2,x3,x4,x5,x6,x7,x8,x9,x10,x11,x12⟩:=hB.c13
 rcases b with _|_
 ·go_wp2_with first|(go_at_call 63;refine(K1.out _ u).mono ?_;rintro e wn ⟨rfl,v⟩;replace u:=u.trans v;replace hB:=hB.up v;clear v;obtain⟨x0,x1,x2,x3,x4,x5,x6,x7,x8,x9,x10,x11,x12⟩:=hB.c13)|(go_at_call 64;refine(K2.out _).mono ?_;rintro e wm ⟨rfl,rfl⟩)
  go_ret;exact⟨ret_int (by rw[HB.out];rfl),u⟩
 rcases bb with _|_
 ·go_wp2_with first|(go_at_call 63;refine(K1.out _ u).mono ?_;rintro e wn ⟨rfl,v⟩;replace u:=u.trans v;replace hB:=hB.up v;clear v;obtain⟨x0,x1,x2,x3,x4,x5,x6,x7,x8,x9,x10,x11,x12⟩:=hB.c13)|(go_at_call 64;refine(K2.out _).mono ?_;rintro e wm ⟨rfl,rfl⟩)
  go_ret;exact⟨ret_int (by rw[HB.out];rfl),u⟩
 ·go_wp2_with first|(go_at_call 63;refine(K1.out _ u).mono ?_;rintro e wn ⟨rfl,v⟩;replace u:=u.trans v;replace hB:=hB.up v;clear v;obtain⟨x0,x1,x2,x3,x4,x5,x6,x7,x8,x9,x10,x11,x12⟩:=hB.c13)|(go_at_call 64;refine(K2.out _).mono ?_;rintro e wm ⟨rfl,rfl⟩)
  go_ret;exact⟨ret_int (by rw[HB.out];rfl),u⟩
def slC(s:Sl Sp):List Value:=[.slice s.A s.l.length s.c]
theorem slC_len(s:Sl Sp):(slC s).length=1:=rfl
def rwSp(s:Sl Sp):Rw:=⟨84,2,.slice s.A s.l.length s.c,s.l.length,s.l.flatMap spC⟩
def rwL(o:Value)(L:List (Sl Sp)):Rw:=⟨76,1,o,L.length,L.flatMap slC⟩
theorem OwA.hd{w:World}{base:Nat}{r:Rw}{L:List Rw}(h:OwA w base (r :: L)):r.own w base:=h.each r (by simp)
theorem rwL_form{w:World}{base:Nat}{o:Value}{L:List (Sl Sp)}{R:List Rw}(h:OwA w base (rwL o L :: R)):∃A c,o=.slice A L.length c∧L.length≤c∧c≤maxLen:=by
 have h1:w.ownsRow base 76 1 o L.length (L.flatMap slC):=h.hd
 obtain⟨A,c,e,h2,h3,-,-⟩:=own_form h1
 exact⟨A,c,e,h2,h3⟩
theorem infoSlSp:(Tryz.prog.info? 76).map (fun i=>(i.zero,i.size,i.bytes))=some (some (.slice none 0 0),1,24):=by kernel_rfl
theorem Rd.sl{w:World}{lo hi:Nat}{A:Option Addr}{l:List (Sl Sp)}(h:Rd w lo hi 1 slC A l){k:Nat}(hk:k<l.length) :
 ∃b off d,A=some ⟨b,off,none⟩∧lo≤b∧b<hi∧l[k]?=some d∧w.cell? ⟨b,off+k,none⟩=some (.slice d.A d.l.length d.c):=by
 obtain⟨b,off,d,e,h1,h2,h3,h4⟩:=Rd.at_ h hk
 have:=h4 0 _ rfl
 rw[Nat.mul_one]at this;exact⟨b,off,d,e,h1,h2,h3,this⟩
theorem allSources_any(x:Wd)(d:Dd)(lo hi lo2 hi2:Nat)(w:World)(h:RdW w lo hi x)(h2:RdE w lo2 hi2 d)(hx:WdF x.p)(hd:DdF x.p d.p)(hne:∀d∈x.ps.l,d.nm.toList≠[]) :
 Calls Tryz.prog 28 #[.agg #[.slice x.rs.A x.rs.l.length x.rs.c,.int .i64 x.fr,.int .i64 x.to_,.slice x.ps.A x.ps.l.length x.ps.c,.slice x.ts.A x.ts.l.length x.ts.c,.slice x.pl.A x.pl.l.length x.pl.c,.slice x.ws.A x.ws.l.length x.ws.c,.slice x.st.A x.st.l.length x.st.c,.slice x.se.A x.se.l.length x.se.c,.slice x.ha.A x.ha.l.length x.ha.c],d.val] w fun e w'=>∃(o:Value) (L:List (Sl Sp)),e=.returned o∧L.map (·.l)=(List.range 5).map (srcS x.p d.p)∧OwA w' w.heap.size (rwL o L :: L.map rwSp)∧Up w w':=by
 obtain⟨i0,hi0,hz0,hz1,hz2⟩:=info_parts infoSlSp
 have u:=(Up.alloc w (.cells (vPiX x) 59)).allocs (.cells (vPiD d) 81)
 have hA:=(Bx.new w (vPiX x) 59).up (Up.alloc _ (.cells (vPiD d) 81))
 have hD:=Bx.new (w.alloc (.cells (vPiX x) 59)) (vPiD d) 81
 have hsz:(w.alloc (.cells (vPiX x) 59)).heap.size=w.heap.size+1:=by simp
 rw[hsz]at hD;have CS:=qh (fun(k:Nat) (hk:k≤4) (wx:World) (v:Up w wx)=>sourceDays_any x d k lo hi lo2 hi2 wx (h.up v) (h2.up v) hx hd hne hk)
 clear h h2 hx hd hne hsz;obtain⟨P,hP⟩:∃P,P=d.p:=⟨_,rfl⟩
 rw[← hP]at CS ⊢
 clear hP;obtain⟨dnm,dda,dwi,dpl,dse,dha,dci⟩:=d
 try simp only[]at *
 have hszX:((w.alloc (.cells #[.slice x.rs.A x.rs.l.length x.rs.c,.int .i64 x.fr,.int .i64 x.to_,.slice x.ps.A x.ps.l.length x.ps.c,.slice x.ts.A x.ts.l.length x.ts.c,.slice x.pl.A x.pl.l.length x.pl.c,.slice x.ws.A x.ws.l.length x.ws.c,.slice x.st.A x.st.l.length x.st.c,.slice x.se.A x.se.l.length x.se.c,.slice x.ha.A x.ha.l.length x.ha.c] 59)).alloc (.cells #[.string dnm,.slice dda.A dda.l.length dda.c,.slice dwi.A dwi.l.length dwi.c,.string dpl,.string dse,.string dha,.slice dci.A dci.l.length dci.c] 81)).heap.size=w.heap.size+1+1:=by simp
 go_enter Tryz.func28,Tryz.ntmps28
 go_wp2_with fail
 generalize (w.alloc (.cells (vPiX x) 59)).alloc (.cells (vPiD ⟨dnm,dda,dwi,dpl,dse,dha,dci⟩) 81)=X at *
 have hO0:OwA (X.alloc (.cells #[] 76)) X.heap.size (rwL (.slice (some ⟨X.heap.size,0,none⟩) 0 0) [] :: ([]:List (Sl Sp)).map rwSp):=OwA.one (World.ownsRow_lit (base:=X.heap.size) (e:=76) (size:=1) X #[] 0 (Nat.le_refl _) (by simp[maxLen]) rfl)
 have u0:=u.allocs (.cells #[] 76)
 have hA0:=hA.up (Up.alloc X (.cells #[] 76))
 have hD0:=hD.up (Up.alloc X (.cells #[] 76))
 obtain⟨v0,hv0⟩:∃v,v=Value.slice (some ⟨w.heap.size+1+1,0,none⟩) 0 0:=⟨_,rfl⟩
 rw[hszX,← hv0]at hO0;have hsz0:w.heap.size+1+1≤(X.alloc (.cells #[] 76)).heap.size:=by rw[← hszX];simp
 rw[← hv0];generalize X.alloc (.cells #[] 76)=X0 at *
 clear hv0 u hA hD hszX;obtain⟨bX,hbX⟩:∃z,z=w.heap.size+1+1:=⟨_,rfl⟩
 rw[← hbX]at hO0 hsz0;have hbw:w.heap.size+1+1≤bX:=Nat.le_of_eq hbX.symm
 clear hbX;go_loopw [5,6] (fun o tn wr=>∃(k:Nat) (L:List (Sl Sp)),k≤5∧tn=.int .i64 k∧Hid (L.length=k)∧Hid (L.map (·.l)=(List.range k).map (srcS x.p P))∧OwA wr bX (rwL o L :: L.map rwSp)∧Up w wr∧bX≤wr.heap.size∧Bx wr w.heap.size [.slice x.rs.A x.rs.l.length x.rs.c,.int .i64 x.fr,.int .i64 x.to_,.slice x.ps.A x.ps.l.length x.ps.c,.slice x.ts.A x.ts.l.length x.ts.c,.slice x.pl.A x.pl.l.length x.pl.c,.slice x.ws.A x.ws.l.length x.ws.c,.slice x.st.A x.st.l.length x.st.c,.slice x.se.A x.se.l.length x.se.c,.slice x.ha.A x.ha.l.length x.ha.c]∧Bx wr (w.heap.size+1) [.string dnm,.slice dda.A dda.l.length dda.c,.slice dwi.A dwi.l.length dwi.c,.string dpl,.string dse,.string dha,.slice dci.A dci.l.length dci.c]) (fun _ tn _=>5-(intOf tn).toNat)
 case atStart=>exact⟨0,[],by omega,rfl,qh rfl,qh rfl,hO0,u0,hsz0,hA0,hD0⟩
 case round =>
  clear hO0 u0 hsz0 hA0 hD0;obtain⟨k,L,hk,rfl,hLk,hL,ho,hup,hui,hA,hD⟩:=hrel
  obtain⟨Ao,co,rfl,hco,hcm⟩:=rwL_form ho
  by_cases hlt:k≤4
  ·have hl4:decide ((k:Int)≤4)=true:=decide_eq_true (by omega)
   have HL5:Hid (L.length≤5):=qh (by rw[hLk.out];exact hk)
   obtain⟨x0,x1,x2,x3,x4,x5,x6,x7,x8,x9⟩:=hA.c10
   obtain⟨d0,d1,d2,d3,d4,d5,d6⟩:=hD.c7
   have C:=qh (CS.out k hlt wr hup)
   go_wp2_with fail
   refine C.out.mono ?_
   rintro e w4 ⟨v4,rfl,hown,v1⟩
   obtain⟨A4,c4,rfl,hc4,hm4,-,-⟩:=own_form hown
   have n1:L.length+1≤maxLen:=by have:=HL5.out;unfold maxLen;omega
   have n2:(L.length+1)*24≤140737488355328:=by have:=HL5.out;omega
   have hU:=(hup.trans v1).allocs (.cells #[.slice A4 (srcS x.p P k).length c4] 76)
   have hUi:bX≤(w4.alloc (.cells #[.slice A4 (srcS x.p P k).length c4] 76)).heap.size:=Nat.le_trans hui (v1.allocs _).size
   have hA4:=(hA.up v1).up (Up.alloc w4 (.cells #[.slice A4 (srcS x.p P k).length c4] 76))
   have hD4:=(hD.up v1).up (Up.alloc w4 (.cells #[.slice A4 (srcS x.p P k).length c4] 76))
   have hoA:OwA (w4.alloc (.cells #[.slice A4 (srcS x.p P k).length c4] 76)) bX (rwL (.slice Ao L.length co) L :: (L.map rwSp++[rwSp ⟨A4,c4,srcS x.p P k⟩])):=by
    have h1:=(ho.append v1 hui (OwA.one (r:=rwSp ⟨A4,c4,srcS x.p P k⟩) hown)).up (Up.alloc w4 (.cells #[.slice A4 (srcS x.p P k).length c4] 76))
    simpa using h1
   have HOA:=qh hoA
   have HW:=qh (show(w4.alloc (.cells #[.slice A4 (srcS x.p P k).length c4] 76)).ownsRow bX 76 1 (.slice Ao L.length co) L.length (L.flatMap slC) from hoA.hd)
   clear hoA ho hown d0 d1 d2 d3 d4 d5 d6 x0 x1 x2 x3 x4 x5 x6 x7 x8 x9;go_wp2_with ((at_builtin;refine wpList_append_own_at _ rfl _ _ 75 rfl bX 76 i0 _ 1 24 Tryz.underlying75 hi0 hz0 hz1 hz2 rfl (by decide) _ _ _ rfl HW.out ⟨w4.heap.size,0,none⟩ 1 1 [.slice A4 (srcS x.p P k).length c4] rfl rfl (cell_one_new _ _ _) (by simp[Value.oneCell']) n1 n2 hUi ?_))
   intro v' w5 hown' hgrow _ hat
   have hU5:=hU.grown hgrow (fun k hk=>by have:=(HW.out.lt k hk).1;omega)
   have hsz5:=Nat.le_trans hUi hgrow.size
   have hA5:=hA4.grown hgrow (fun e=>by have:=(HW.out.lt _ e).1;omega)
   have hD5:=hD4.grown hgrow (fun e=>by have:=(HW.out.lt _ e).1;omega)
   have hnew:OwA w5 bX (rwL v' (L++[(⟨A4,c4,srcS x.p P k⟩:Sl Sp)]) :: (L++[(⟨A4,c4,srcS x.p P k⟩:Sl Sp)]).map rwSp):=by
    have h1:=HOA.out.push (r':=rwL v' (L++[(⟨A4,c4,srcS x.p P k⟩:Sl Sp)])) (by simpa[rwL,Rw.own,slC] using hown') hgrow (by simpa[rwL] using hat)
    simpa using h1
   clear hown' hgrow hat;go_wp2;go_roundw
   case rel=>exact⟨k+1,L++[⟨A4,c4,srcS x.p P k⟩],by omega,by go_num,qh (by rw[List.length_append,hLk.out];rfl),qh (by rw[List.map_append,hL.out,List.range_succ,List.map_append];rfl),hnew,hU5,hsz5,hA5,hD5⟩
   case measure=>simp[intOf];omega
  ·have hl4:decide ((k:Int)≤4)=false:=decide_eq_false (by omega)
   obtain rfl:k=5:=by omega
   go_wp2;go_ret;exact⟨_,L,rfl,hL.out,ho.base (by omega),hup⟩
def mtF(L:List (List Sp)):List Sp:=L.foldl metL [(0,730499)]
theorem mtF_s{L:List (List Sp)}{k:Nat}{S:List Sp}(h:L[k]?=some S):mtF (L.take (k+1))=metL (mtF (L.take k)) S:=by
 unfold mtF
 rw[List.take_succ_eq_append_getElem (List.getElem?_eq_some_iff.1 h).1,(List.getElem?_eq_some_iff.1 h).2,List.foldl_append];rfl
theorem mtF_len{L:List (List Sp)}(h:∀S∈L,S.length≤10001):∀k,(mtF (L.take k)).length≤1+10001*k
 | 0=>by simp[mtF]
 | k+1=>by
   have ih:=mtF_len h k
   rcases hk:L[k]? with _|S
   ·rw[List.getElem?_eq_none_iff]at hk
    rw[List.take_of_length_le (by omega)]at ih ⊢
    omega
   ·rw[mtF_s hk]
    have h1:=metL_len (mtF (L.take k)) S
    have h2:=h S (List.mem_of_getElem? hk)
    omega
theorem metAll_any(A:Option Addr)(L:List (Sl Sp))(c lo hi:Nat)(w:World)(hr:Rd w lo hi 1 slC A L)(hhi:hi≤w.heap.size)(he:∀s∈L,∃a b,b≤w.heap.size∧RdP w a b s.A s.l)(hl:L.length≤8)(hb:∀s∈L,s.l.length≤10001) :
 Calls Tryz.prog 30 #[.slice A L.length c,.int .i64 (-1)] w fun e w'=>∃v,e=.returned v∧w'.ownsRow w.heap.size 84 2 v (mtF (L.map (·.l))).length ((mtF (L.map (·.l))).flatMap spC)∧Up w w':=by
 have HE:=qh he
 have HB:=qh hb
 have HN:=qh (mtF_len (L:=L.map (·.l)) (fun S hS=>by obtain⟨s,hs,rfl⟩:=List.mem_map.1 hS;exact hb s hs))
 clear he hb;have hW:=World.ownsRow_lit (base:=w.heap.size) (e:=84) (size:=2) w #[.int .i64 0,.int .i64 730499] 1 (Nat.le_refl _) (by simp[maxLen]) rfl
 have u0:=Up.alloc w (.cells #[.int .i64 0,.int .i64 730499] 84)
 go_enter Tryz.func30,Tryz.ntmps30
 go_wp2_with fail
 obtain⟨v0,hv0⟩:∃v,v=Value.slice (some ⟨w.heap.size,0,none⟩) 1 1:=⟨_,rfl⟩
 rw[← hv0]at hW ⊢
 generalize w.alloc (.cells #[.int .i64 0,.int .i64 730499] 84)=w2 at *
 clear hv0;go_loopw [5,6,7,12] (fun o _ _ i wr=>∃(k:Nat) (O:List Sp),k≤L.length∧i=.int .i64 k∧Hid (O=mtF ((L.map (·.l)).take k))∧wr.ownsRow w.heap.size 84 2 o O.length (O.flatMap spC)∧Up w wr) (fun _ _ _ i _=>L.length-(intOf i).toNat)
 case atStart=>exact⟨0,[(0,730499)],Nat.zero_le _,rfl,qh rfl,hW,u0⟩
 case round =>
  clear hW u0;obtain⟨k,O,hk,rfl,HO,hown,hup⟩:=hrel
  obtain⟨Ao,co,rfl,hco,hcm,-,-⟩:=own_form hown
  by_cases hlt:k<L.length
  ·obtain⟨b,off,d,rfl,-,-,hd,q0⟩:=(hr.up hup hhi).sl hlt
   have HD:=qh (show(L.map (·.l))[k]?=some d.l by rw[List.getElem?_map,hd];rfl)
   obtain⟨a1,b1,hb1,hr1⟩:=HE.out d (List.mem_of_getElem? hd)
   have hl1:=HB.out d (List.mem_of_getElem? hd)
   have hol:O.length≤90000:=by have:=HN.out k;rw[← HO.out]at this;omega
   have hne:((k:Int) != -1)=true:=bne_iff_ne.2 (by omega)
   have hrd:=hr1.up hup hb1
   have hb2:=Nat.le_trans hb1 hup.size
   clear hd hr1;obtain⟨dA,dc,dl⟩:=d
   simp only[]at *;have CM:=qh (met_any Ao dA O dl co dc _ _ _ _ wr (Rd.own spC_len hown) (Nat.le_refl _) hrd hb2 (by omega) (by omega))
   clear hrd hown;go_wp2_with (go_at_call 67;refine CM.out.mono ?_;rintro e w4 ⟨v4,rfl,ho4,v1⟩)
   have HO4:=qh (own_base ho4 hup.size)
   clear ho4;go_roundw
   case rel=>exact⟨k+1,metL O dl,by omega,by go_num,qh (by rw[HO.out,mtF_s HD.out]),HO4.out,hup.trans v1⟩
   case measure=>simp[intOf];omega
  ·obtain rfl:k=L.length:=by omega
   have hfin:O=mtF (L.map (·.l)):=by rw[HO.out,List.take_of_length_le (by simp)]
   clear HO;subst hfin;go_wp2;go_ret;exact⟨_,rfl,hown,hup⟩
end Go.Proofs.YtihcmhmanfobcaaGreatDoor
