/- The days that a source of a deed allows, and all of them: the reference's. -/
import Derived.Test.YtaoplcclemckjaaGreatDoorCp
import Derived.Test.YtaoplcclemckjaaGreatDoorVk
import Derived.Test.YtaoplcclemckjaaGreatDoorYs
set_option maxHeartbeats 8000000
set_option maxRecDepth 100000
namespace Go.Proofs.YtaoplcclemckjaaGreatDoor
open Go.RowKit Go.Sort
abbrev vCqX(x:Wd):Array Value:=#[.slice x.rs.A x.rs.l.length x.rs.c,.int .i64 x.fr,.int .i64 x.to_,.slice x.ps.A x.ps.l.length x.ps.c,.slice x.ts.A x.ts.l.length x.ts.c,.slice x.pl.A x.pl.l.length x.pl.c,.slice x.ws.A x.ws.l.length x.ws.c,.slice x.st.A x.st.l.length x.st.c,.slice x.se.A x.se.l.length x.se.c,.slice x.ha.A x.ha.l.length x.ha.c]
abbrev vCqD(d:Dd):Array Value:=#[.string d.nm,.slice d.da.A d.da.l.length d.da.c,.slice d.wi.A d.wi.l.length d.wi.c,.string d.pl,.string d.se,.string d.ha,.slice d.ci.A d.ci.l.length d.ci.c]
theorem l17Source_any(x:Wd)(d:Dd)(k lo hi lo2 hi2:Nat)(w:World)(h:RdW w lo hi x)(h2:RdE w lo2 hi2 d)(hx:WdF x.p)(hd:DdF x.p d.p)(hk:k≤4) :
 Calls Tryz.prog 89 #[.agg #[.slice x.rs.A x.rs.l.length x.rs.c,.int .i64 x.fr,.int .i64 x.to_,.slice x.ps.A x.ps.l.length x.ps.c,.slice x.ts.A x.ts.l.length x.ts.c,.slice x.pl.A x.pl.l.length x.pl.c,.slice x.ws.A x.ws.l.length x.ws.c,.slice x.st.A x.st.l.length x.st.c,.slice x.se.A x.se.l.length x.se.c,.slice x.ha.A x.ha.l.length x.ha.c],d.val,.int .i64 k] w fun e w'=>∃v,e=.returned v∧w'.ownsRow w.heap.size 83 2 v (srcS x.p d.p k).length ((srcS x.p d.p k).flatMap spC)∧Up w w':=by
 rcases k with _|_|_|_|_|k
 ·exact l17Source_0 x d lo hi lo2 hi2 w h h2 hx hd
 ·exact l17Source_1 x d lo hi lo2 hi2 w h h2 hx hd
 ·by_cases hp:d.pl.toList=[]
  ·exact l17Source_2n x d lo hi lo2 hi2 w h h2 hx hd hp
  ·exact l17Source_2y x d lo hi lo2 hi2 w h h2 hx hd hp
 ·by_cases hp:d.se.toList=[]
  ·exact l17Source_3n x d lo hi lo2 hi2 w h h2 hx hd hp
  ·exact l17Source_3y x d lo hi lo2 hi2 w h h2 hx hd hp
 ·by_cases hp:d.ha.toList=[]
  ·exact l17Source_4n x d lo hi lo2 hi2 w h h2 hx hd hp
  ·exact l17Source_4y x d lo hi lo2 hi2 w h h2 hx hd hp
 ·omega
noncomputable def ownK (x:Pw) (d:Pd) (k:Nat):List Sp:=dset fun n=>inB n x.fr x.to_ && (List.range k).all fun j=>srcB x d j n
theorem ownK_0{x:Pw}{d:Pd}(h:WdF x):[(x.fr,x.to_)]=ownK x d 0:=by
 rw[win_set h];exact dset_congr fun n _ _=>by simp
theorem ownK_s(x:Pw)(d:Pd)(k:Nat):metL (ownK x d k) (srcS x d k)=ownK x d (k+1):=by
 unfold ownK srcS
 rw[metL_dset];refine dset_congr fun n _ _=>?_
 rw[List.range_succ,List.all_append];cases inB n x.fr x.to_<;>simp
theorem ownK_len{x:Pw}{d:Pd}{k:Nat}(h:WdF x):(ownK x d k).length≤10001:=win_len h.le h.win
theorem l17Own_any(x:Wd)(d:Dd)(lo hi lo2 hi2:Nat)(w:World)(h:RdW w lo hi x)(h2:RdE w lo2 hi2 d)(hx:WdF x.p)(hd:DdF x.p d.p) :
 Calls Tryz.prog 47 #[.agg #[.slice x.rs.A x.rs.l.length x.rs.c,.int .i64 x.fr,.int .i64 x.to_,.slice x.ps.A x.ps.l.length x.ps.c,.slice x.ts.A x.ts.l.length x.ts.c,.slice x.pl.A x.pl.l.length x.pl.c,.slice x.ws.A x.ws.l.length x.ws.c,.slice x.st.A x.st.l.length x.st.c,.slice x.se.A x.se.l.length x.se.c,.slice x.ha.A x.ha.l.length x.ha.c],d.val,.int .i64 (-1)] w fun e w'=>∃v,e=.returned v∧w'.ownsRow w.heap.size 83 2 v (ownS x.p d.p).length ((ownS x.p d.p).flatMap spC)∧Up w w':=by
 have u:=(Up.alloc w (.cells (vCqX x) 59)).allocs (.cells (vCqD d) 112)
 have hA:=(Bx.new w (vCqX x) 59).up (Up.alloc _ (.cells (vCqD d) 112))
 have hD:=Bx.new (w.alloc (.cells (vCqX x) 59)) (vCqD d) 112
 have hsz:(w.alloc (.cells (vCqX x) 59)).heap.size=w.heap.size+1:=by simp
 rw[hsz]at hD;have hsz2:((w.alloc (.cells (vCqX x) 59)).alloc (.cells (vCqD d) 112)).heap.size=w.heap.size+2:=by simp
 have hW:=World.ownsRow_lit (base:=w.heap.size) (e:=83) (size:=2) ((w.alloc (.cells (vCqX x) 59)).alloc (.cells (vCqD d) 112)) #[.int .i64 x.fr,.int .i64 x.to_] 1 u.size (by simp[maxLen]) rfl
 rw[hsz2]at hW;have v:=Up.alloc ((w.alloc (.cells (vCqX x) 59)).alloc (.cells (vCqD d) 112)) (.cells #[.int .i64 x.fr,.int .i64 x.to_] 83)
 obtain⟨x0,x1,x2,x3,x4,x5,x6,x7,x8,x9⟩:=hA.c10
 replace hA:=hA.up v;replace hD:=hD.up v;replace u:=u.trans v;have CS:=qh (fun(k:Nat) (hk:k≤4) (wx:World) (v:Up w wx)=>l17Source_any x d k lo hi lo2 hi2 wx (h.up v) (h2.up v) hx hd hk)
 have HK:=qh (ownK_0 (d:=d.p) hx)
 have HN:=qh (fun k=>ownK_len (d:=d.p) (k:=k) hx)
 have HM:=qh (fun k=>src_len (d:=d.p) (k:=k) hx)
 have HS:=qh (fun k=>ownK_s x.p d.p k)
 have HF:=qh (show ownK x.p d.p 5=ownS x.p d.p from rfl)
 have hO:∃O,O=ownK x.p d.p 0∧O=[(x.fr,x.to_)]:=⟨_,rfl,HK.out.symm⟩
 obtain⟨O0,hO0,hO1⟩:=hO
 have hW0:(((w.alloc (.cells #[.slice x.rs.A x.rs.l.length x.rs.c,.int .i64 x.fr,.int .i64 x.to_,.slice x.ps.A x.ps.l.length x.ps.c,.slice x.ts.A x.ts.l.length x.ts.c,.slice x.pl.A x.pl.l.length x.pl.c,.slice x.ws.A x.ws.l.length x.ws.c,.slice x.st.A x.st.l.length x.st.c,.slice x.se.A x.se.l.length x.se.c,.slice x.ha.A x.ha.l.length x.ha.c] 59)).alloc (.cells #[.string d.nm,.slice d.da.A d.da.l.length d.da.c,.slice d.wi.A d.wi.l.length d.wi.c,.string d.pl,.string d.se,.string d.ha,.slice d.ci.A d.ci.l.length d.ci.c] 112)).alloc (.cells #[.int .i64 x.fr,.int .i64 x.to_] 83)).ownsRow w.heap.size 83 2 (.slice (some ⟨w.heap.size+2,0,none⟩) 1 1) O0.length (O0.flatMap spC):=by rw[hO1];exact hW
 clear h h2 hx hd v hsz hsz2 hW hO1 HK;obtain⟨P,hP⟩:∃P,P=d.p:=⟨_,rfl⟩
 rw[← hP]at CS HN HM HS HF hO0 ⊢
 clear hP;obtain⟨dnm,dda,dwi,dpl,dse,dha,dci⟩:=d
 simp only[]at *;go_enter Tryz.func47,Tryz.ntmps47
 go_wp2_with fail
 generalize ((w.alloc (.cells (vCqX x) 59)).alloc (.cells (vCqD ⟨dnm,dda,dwi,dpl,dse,dha,dci⟩) 112)).alloc (.cells #[.int .i64 x.fr,.int .i64 x.to_] 83)=X at *
 clear x0 x1 x2 x3 x4 x5 x6 x7 x8 x9;go_loopw [7,8] (fun o tn wr=>∃k:Nat,∃O:List Sp,k≤5∧tn=.int .i64 k∧Hid (O=ownK x.p P k)∧wr.ownsRow w.heap.size 83 2 o O.length (O.flatMap spC)∧Up w wr∧Up X wr) (fun _ tn _=>5-(intOf tn).toNat)
 case atStart=>exact⟨0,O0,by omega,rfl,qh hO0,hW0,u,Up.refl _⟩
 case round =>
  clear hW0 u hO0;obtain⟨k,O,hk,rfl,HO,hown,hup,hui⟩:=hrel
  obtain⟨Ao,co,rfl,hco,hcm,-,-⟩:=own_form hown
  by_cases hlt:k≤4
  ·have hl4:decide ((k:Int)≤4)=true:=decide_eq_true (by omega)
   have hne:((k:Int) != -1)=true:=bne_iff_ne.2 (by omega)
   have CK:=qh (CS.out k hlt)
   have HL:Hid (O.length≤100000):=qh (by have:=HN.out k;rw[HO.out];omega)
   have HL2:Hid ((srcS x.p P k).length≤100000):=qh (by have:=HM.out k;omega)
   obtain⟨x0,x1,x2,x3,x4,x5,x6,x7,x8,x9⟩:=(hA.up hui).c10
   obtain⟨d0,d1,d2,d3,d4,d5,d6⟩:=(hD.up hui).c7
   go_wp2_with fail
   refine(CK.out _ hup).mono ?_
   rintro e w3 ⟨v3,rfl,ho3,v1⟩
   obtain⟨A3,c3,rfl,hc3,hm3,-,-⟩:=own_form ho3
   have hr3:=Rd.own spC_len ho3
   have hrO:=Rd.own spC_len (own_up hown v1)
   clear ho3 hown x0 x1 x2 x3 x4 x5 x6 x7 x8 x9 d0 d1 d2 d3 d4 d5 d6;go_wp2_with fail
   refine(specMeet_any Ao A3 O (srcS x.p P k) co c3 _ _ _ _ w3 hrO (Nat.le_refl _) hr3 (Nat.le_refl _) HL.out HL2.out).mono ?_
   rintro e w4 ⟨v4,rfl,ho4,v2⟩
   have hown4:=own_base ho4 (hup.trans v1).size
   rw[HO.out,HS.out]at hown4;have hup4:=(hup.trans v1).trans v2
   have hui4:=(hui.trans v1).trans v2
   clear ho4 hr3 hrO v1 v2;go_wp2;go_roundw
   case rel=>exact⟨k+1,ownK x.p P (k+1),by omega,by go_num,qh rfl,hown4,hup4,hui4⟩
   case measure=>simp[intOf];omega
  ·have hl4:decide ((k:Int)≤4)=false:=decide_eq_false (by omega)
   have HE:=qh (show O=ownS x.p P by rw[HO.out,show k=5 by omega];exact HF.out)
   go_wp2;go_ret;exact⟨_,rfl,by rw[← HE.out];exact hown,hup⟩
theorem l02Result_any(A:Option Addr)(n c:Nat)(w:World)(hn:n≤2000000) :
 Calls Tryz.prog 18 #[.slice A n c] w fun e w'=>e=.returned (if 300<n then .tuple #[.slice none 0 0,.int .i64 3] else .tuple #[.slice A n c,.int .i64 0])∧w'=w:=by
 by_cases h:300<n
 ·have hd:decide ((300:Int)<(n:Int))=true:=decide_eq_true (by omega)
  go_enter Tryz.func18,Tryz.ntmps18
  go_wp2;go_ret2;exact⟨rfl,rfl⟩
 ·have hd:decide ((300:Int)<(n:Int))=false:=decide_eq_false (by omega)
  go_enter Tryz.func18,Tryz.ntmps18
  go_wp2;go_ret2;exact⟨rfl,rfl⟩
def evC(x:Pw)(ds:List Pd)(fs:List Fm)(q:List (Sl ByteArray))(i:Int):Int:=if evB x ds fs q=true then(if inB i 0 ((ds.length:Int)-1)=true then 0 else 2) else 1
theorem l25Code_any(x:Wd)(s:Sl Dd)(g:Sl Fm)(q:Sl (Sl ByteArray))(i:Int)(lo hi:Nat)(w:World)(h:RdW w lo hi x)(h2:RdDd w lo hi s)(h3:SrF w lo hi g)(h4:SrPh w lo hi q) :
 Calls Tryz.prog 17 #[.agg #[.slice x.rs.A x.rs.l.length x.rs.c,.int .i64 x.fr,.int .i64 x.to_,.slice x.ps.A x.ps.l.length x.ps.c,.slice x.ts.A x.ts.l.length x.ts.c,.slice x.pl.A x.pl.l.length x.pl.c,.slice x.ws.A x.ws.l.length x.ws.c,.slice x.st.A x.st.l.length x.st.c,.slice x.se.A x.se.l.length x.se.c,.slice x.ha.A x.ha.l.length x.ha.c,.slice s.A s.l.length s.c,.slice g.A g.l.length g.c,.slice q.A q.l.length q.c],.int .i64 i] w fun e w'=>e=.returned (.int .i64 (evC x.p (s.l.map Dd.p) g.l q.l i))∧Up w w':=by
 have u:=Up.alloc w (.cells #[.slice x.rs.A x.rs.l.length x.rs.c,.int .i64 x.fr,.int .i64 x.to_,.slice x.ps.A x.ps.l.length x.ps.c,.slice x.ts.A x.ts.l.length x.ts.c,.slice x.pl.A x.pl.l.length x.pl.c,.slice x.ws.A x.ws.l.length x.ws.c,.slice x.st.A x.st.l.length x.st.c,.slice x.se.A x.se.l.length x.se.c,.slice x.ha.A x.ha.l.length x.ha.c,.slice s.A s.l.length s.c,.slice g.A g.l.length g.c,.slice q.A q.l.length q.c] 63)
 have hA:=Bx.new w #[.slice x.rs.A x.rs.l.length x.rs.c,.int .i64 x.fr,.int .i64 x.to_,.slice x.ps.A x.ps.l.length x.ps.c,.slice x.ts.A x.ts.l.length x.ts.c,.slice x.pl.A x.pl.l.length x.pl.c,.slice x.ws.A x.ws.l.length x.ws.c,.slice x.st.A x.st.l.length x.st.c,.slice x.se.A x.se.l.length x.se.c,.slice x.ha.A x.ha.l.length x.ha.c,.slice s.A s.l.length s.c,.slice g.A g.l.length g.c,.slice q.A q.l.length q.c] 63
 have hsl:=h2.len
 have CS:=qh (fun(wx:World) (v:Up w wx)=>specIsEvidence_any x s g q lo hi wx (h.up v) (h2.up v) (h3.up v) (h4.up v))
 obtain⟨b1,e1⟩:∃z,evB x.p (s.l.map Dd.p) g.l q.l=z:=⟨_,rfl⟩
 obtain⟨b2,e2⟩:∃z,inB i 0 ((s.l.length:Int)-1)=z:=⟨_,rfl⟩
 have HE:=qh (show evC x.p (s.l.map Dd.p) g.l q.l i=if b1=true then(if b2=true then 0 else 2) else 1 by unfold evC;rw[e1,List.length_map,e2])
 have CI:=qh (fun(wx:World)=>l01InU i 0 ((s.l.length:Int)-1) wx)
 rw[e1]at CS;rw[e2]at CI;clear h h2 h3 h4 e1 e2;have hw1:IntKind.i64.wrap ((s.l.length:Int)-1)=(s.l.length:Int)-1:=IntWalk.i64_in _ (by omega)
 go_enter Tryz.func17,Tryz.ntmps17
 go_wp2_with fail
 generalize w.alloc (.cells #[.slice x.rs.A x.rs.l.length x.rs.c,.int .i64 x.fr,.int .i64 x.to_,.slice x.ps.A x.ps.l.length x.ps.c,.slice x.ts.A x.ts.l.length x.ts.c,.slice x.pl.A x.pl.l.length x.pl.c,.slice x.ws.A x.ws.l.length x.ws.c,.slice x.st.A x.st.l.length x.st.c,.slice x.se.A x.se.l.length x.se.c,.slice x.ha.A x.ha.l.length x.ha.c,.slice s.A s.l.length s.c,.slice g.A g.l.length g.c,.slice q.A q.l.length q.c] 63)=X at *
 obtain⟨x0,x1,x2,x3,x4,x5,x6,x7,x8,x9,x10,x11,x12⟩:=hA.c13
 go_wp2_with fail
 refine(CS.out _ u).mono ?_
 rintro e w1 ⟨rfl,v⟩
 replace u:=u.trans v;replace hA:=hA.up v;clear v x0 x1 x2 x3 x4 x5 x6 x7 x8 x9 x10 x11 x12;obtain⟨x0,x1,x2,x3,x4,x5,x6,x7,x8,x9,x10,x11,x12⟩:=hA.c13
 rcases b1 with _|_
 ·go_wp2
  go_ret;exact⟨by rw[HE.out];rfl,u⟩
 ·go_wp2_with fail
  refine(CI.out _).mono ?_
  rintro e w2 ⟨rfl,v⟩
  replace u:=u.trans v;clear v x0 x1 x2 x3 x4 x5 x6 x7 x8 x9 x10 x11 x12;rcases b2 with _|_
  ·go_wp2
   go_ret;exact⟨by rw[HE.out];rfl,u⟩
  ·go_wp2
   go_ret;exact⟨by rw[HE.out];rfl,u⟩
theorem l25Phrase_any(x:Wd)(s:Sl Dd)(g:Sl Fm)(q:Sl (Sl ByteArray))(i:Nat)(p:Sl ByteArray)(lo hi:Nat)(w:World)(h3:SrF w lo hi g)(h4:SrPh w lo hi q)(hp:q.l[i]?=some p) :
 Calls Tryz.prog 48 #[.agg #[.slice x.rs.A x.rs.l.length x.rs.c,.int .i64 x.fr,.int .i64 x.to_,.slice x.ps.A x.ps.l.length x.ps.c,.slice x.ts.A x.ts.l.length x.ts.c,.slice x.pl.A x.pl.l.length x.pl.c,.slice x.ws.A x.ws.l.length x.ws.c,.slice x.st.A x.st.l.length x.st.c,.slice x.se.A x.se.l.length x.se.c,.slice x.ha.A x.ha.l.length x.ha.c,.slice s.A s.l.length s.c,.slice g.A g.l.length g.c,.slice q.A q.l.length q.c],.int .i64 i] w fun e w'=>∃v,e=.returned v∧w'.ownsRow w.heap.size 83 2 v (pdS p.l (g.l.map Fm.p)).length ((pdS p.l (g.l.map Fm.p)).flatMap spC)∧Up w w':=by
 have u:=Up.alloc w (.cells #[.slice x.rs.A x.rs.l.length x.rs.c,.int .i64 x.fr,.int .i64 x.to_,.slice x.ps.A x.ps.l.length x.ps.c,.slice x.ts.A x.ts.l.length x.ts.c,.slice x.pl.A x.pl.l.length x.pl.c,.slice x.ws.A x.ws.l.length x.ws.c,.slice x.st.A x.st.l.length x.st.c,.slice x.se.A x.se.l.length x.se.c,.slice x.ha.A x.ha.l.length x.ha.c,.slice s.A s.l.length s.c,.slice g.A g.l.length g.c,.slice q.A q.l.length q.c] 63)
 have hA:=Bx.new w #[.slice x.rs.A x.rs.l.length x.rs.c,.int .i64 x.fr,.int .i64 x.to_,.slice x.ps.A x.ps.l.length x.ps.c,.slice x.ts.A x.ts.l.length x.ts.c,.slice x.pl.A x.pl.l.length x.pl.c,.slice x.ws.A x.ws.l.length x.ws.c,.slice x.st.A x.st.l.length x.st.c,.slice x.se.A x.se.l.length x.se.c,.slice x.ha.A x.ha.l.length x.ha.c,.slice s.A s.l.length s.c,.slice g.A g.l.length g.c,.slice q.A q.l.length q.c] 63
 have hil:=(List.getElem?_eq_some_iff.1 hp).1
 have hpe:=h4.each p (List.mem_of_getElem? hp)
 have CS:=qh (fun(wx:World) (v:Up w wx)=>specPhraseDays_any g.A p.A g.l p.l g.c p.c lo hi lo hi wx (h3.rd.up v h3.hhi) (Nat.le_trans h3.hhi v.size) ((hpe.up v).rd) (hpe.up v).hhi h3.ok h3.ws h3.len hpe.ok hpe.len hpe.cap.1)
 obtain⟨b,off,d,hqA,-,-,hd,q0⟩:=(h4.rd.up u h4.hhi).ph hil
 rw[hp]at hd;cases hd;have hq2:q.l.length≤2000000:=h4.len
 obtain⟨QA,qc,ql⟩:=q
 simp only[]at *;subst hqA;clear h3 h4 hp hpe;go_enter Tryz.func48,Tryz.ntmps48
 go_wp2_with fail
 generalize w.alloc (.cells #[.slice x.rs.A x.rs.l.length x.rs.c,.int .i64 x.fr,.int .i64 x.to_,.slice x.ps.A x.ps.l.length x.ps.c,.slice x.ts.A x.ts.l.length x.ts.c,.slice x.pl.A x.pl.l.length x.pl.c,.slice x.ws.A x.ws.l.length x.ws.c,.slice x.st.A x.st.l.length x.st.c,.slice x.se.A x.se.l.length x.se.c,.slice x.ha.A x.ha.l.length x.ha.c,.slice s.A s.l.length s.c,.slice g.A g.l.length g.c,.slice (some ⟨b,off,none⟩) ql.length qc] 63)=X at *
 obtain⟨x0,x1,x2,x3,x4,x5,x6,x7,x8,x9,x10,x11,x12⟩:=hA.c13
 go_region_law (first
  |(go_simp;go_at_call 90;with_reducible refine(CS.out _ (by first|exact u|exact u.drew)).mono ?_;rintro e w4 ⟨v4,rfl,ho,v1⟩;have V1:Up X w4:=(by first|exact v1|exact(Up.refl _).drew.trans v1)))
 all_goals
  have HO:=qh (own_base ho u.size)
  have U:=u.trans V1
  clear ho v1 V1;go_wp2;go_ret;exact⟨v4,rfl,HO.out,U⟩
noncomputable def goodS (x:Pw) (d:Pd) (P:List ByteArray) (fs:List FmP):List Sp:=metL (ownS x d) (pdS P fs)
theorem l25Good_any(x:Wd)(s:Sl Dd)(g:Sl Fm)(q:Sl (Sl ByteArray))(i:Nat)(d:Dd)(p:Sl ByteArray)(lo hi:Nat)(w:World)(h:RdW w lo hi x)(h2:RdDd w lo hi s)(h3:SrF w lo hi g)(h4:SrPh w lo hi q)(hi':s.l[i]?=some d)(hp:q.l[i]?=some p)(hx:WdF x.p)(hd:DdF x.p d.p)(hpl:(pdS p.l (g.l.map Fm.p)).length≤100000) :
 Calls Tryz.prog 19 #[.agg #[.slice x.rs.A x.rs.l.length x.rs.c,.int .i64 x.fr,.int .i64 x.to_,.slice x.ps.A x.ps.l.length x.ps.c,.slice x.ts.A x.ts.l.length x.ts.c,.slice x.pl.A x.pl.l.length x.pl.c,.slice x.ws.A x.ws.l.length x.ws.c,.slice x.st.A x.st.l.length x.st.c,.slice x.se.A x.se.l.length x.se.c,.slice x.ha.A x.ha.l.length x.ha.c,.slice s.A s.l.length s.c,.slice g.A g.l.length g.c,.slice q.A q.l.length q.c],.int .i64 i] w fun e w'=>∃v,e=.returned v∧w'.ownsRow w.heap.size 83 2 v (goodS x.p d.p p.l (g.l.map Fm.p)).length ((goodS x.p d.p p.l (g.l.map Fm.p)).flatMap spC)∧Up w w':=by
 have u:=Up.alloc w (.cells #[.slice x.rs.A x.rs.l.length x.rs.c,.int .i64 x.fr,.int .i64 x.to_,.slice x.ps.A x.ps.l.length x.ps.c,.slice x.ts.A x.ts.l.length x.ts.c,.slice x.pl.A x.pl.l.length x.pl.c,.slice x.ws.A x.ws.l.length x.ws.c,.slice x.st.A x.st.l.length x.st.c,.slice x.se.A x.se.l.length x.se.c,.slice x.ha.A x.ha.l.length x.ha.c,.slice s.A s.l.length s.c,.slice g.A g.l.length g.c,.slice q.A q.l.length q.c] 63)
 have hA:=Bx.new w #[.slice x.rs.A x.rs.l.length x.rs.c,.int .i64 x.fr,.int .i64 x.to_,.slice x.ps.A x.ps.l.length x.ps.c,.slice x.ts.A x.ts.l.length x.ts.c,.slice x.pl.A x.pl.l.length x.pl.c,.slice x.ws.A x.ws.l.length x.ws.c,.slice x.st.A x.st.l.length x.st.c,.slice x.se.A x.se.l.length x.se.c,.slice x.ha.A x.ha.l.length x.ha.c,.slice s.A s.l.length s.c,.slice g.A g.l.length g.c,.slice q.A q.l.length q.c] 63
 have hil:=(List.getElem?_eq_some_iff.1 hi').1
 have hde:=h2.each d (List.mem_of_getElem? hi')
 have CO:=qh (fun(wx:World) (v:Up w wx)=>l17Own_any x d lo hi lo hi wx (h.up v) (hde.up v) hx hd)
 have CP:=qh (fun(wx:World) (v:Up w wx)=>l25Phrase_any x s g q i p lo hi wx (h3.up v) (h4.up v) hp)
 have HL:=qh hpl
 have HN:Hid ((ownS x.p d.p).length≤100000):=qh (by have h1:(ownS x.p d.p).length≤10001:=win_len hx.le hx.win;omega)
 obtain⟨b,off,d',hsA,-,-,hd',q0,q1,q2,q3,q4,q5,q6⟩:=(h2.rd.up u h2.hhi).dd hil
 rw[hi']at hd';cases hd'
 have hs2:s.l.length≤2000000:=h2.len
 obtain⟨S,hS⟩:∃S,S=ownS x.p d.p:=⟨_,rfl⟩
 have HS:=qh (show metL S (pdS p.l (g.l.map Fm.p))=goodS x.p d.p p.l (g.l.map Fm.p) by rw[hS];rfl)
 rw[← hS]at CO HN;obtain⟨SA,sc,sl⟩:=s
 obtain⟨dnm,dda,dwi,dpl,dse,dha,dci⟩:=d
 simp only[]at *;subst hsA;clear h h2 h3 h4 hp hi' hx hd hpl hde hS;go_enter Tryz.func19,Tryz.ntmps19
 go_wp2_with fail
 generalize w.alloc (.cells #[.slice x.rs.A x.rs.l.length x.rs.c,.int .i64 x.fr,.int .i64 x.to_,.slice x.ps.A x.ps.l.length x.ps.c,.slice x.ts.A x.ts.l.length x.ts.c,.slice x.pl.A x.pl.l.length x.pl.c,.slice x.ws.A x.ws.l.length x.ws.c,.slice x.st.A x.st.l.length x.st.c,.slice x.se.A x.se.l.length x.se.c,.slice x.ha.A x.ha.l.length x.ha.c,.slice (some ⟨b,off,none⟩) sl.length sc,.slice g.A g.l.length g.c,.slice q.A q.l.length q.c] 63)=X at *
 obtain⟨x0,x1,x2,x3,x4,x5,x6,x7,x8,x9,x10,x11,x12⟩:=hA.c13
 go_region_law (first
  |(go_simp;go_at_call 47;with_reducible refine(CO.out _ (by first|exact u|exact u.drew)).mono ?_;rintro e w4 ⟨v4,rfl,ho,v1⟩;have V1:Up X w4:=(by first|exact v1|exact(Up.refl _).drew.trans v1);obtain⟨z0,z1,z2,z3,z4,z5,z6,z7,z8,z9,z10,z11,z12⟩:=(hA.up V1).c13;obtain⟨A4,c4,rfl,hc4,hm4,-,-⟩:=own_form ho)
  |(go_simp;go_at_call 48;with_reducible refine(CP.out _ (by first|exact u.trans V1|exact(u.trans V1).drew)).mono ?_;rintro e w5 ⟨v5,rfl,ho5,v2⟩;have V2:Up w4 w5:=(by first|exact v2|exact(Up.refl _).drew.trans v2);obtain⟨A5,c5,rfl,hc5,hm5,-,-⟩:=own_form ho5)
  |(go_simp;go_at_call 46;refine(specMeet_any A4 A5 S (pdS p.l (g.l.map Fm.p)) c4 c5 _ _ _ _ w5 (Rd.own spC_len (own_up ho V2)) (Nat.le_refl _) (Rd.own spC_len ho5) (Nat.le_refl _) HN.out HL.out).mono ?_;rintro e w6 ⟨v6,rfl,ho6,v3⟩))
 all_goals
  have HO:=qh (own_base ho6 ((u.trans V1).trans V2).size)
  have U:=((u.trans V1).trans V2).trans v3
  clear ho ho5 ho6 v1 v2 v3 V1 V2 z0 z1 z2 z3 z4 z5 z6 z7 z8 z9 z10 z11 z12;go_wp2;go_ret;exact⟨v6,rfl,by rw[← HS.out];exact HO.out,U⟩
structure EvF (x:Pw) (ds:List Pd) (fs:List Fm) (q:List (Sl ByteArray)):Prop where
 wd:WdF x
 ne:∀d∈x.ps,d.nm.toList≠[]
 dd:∀d∈ds,DdF x d
 n8:ds.length≤8
 ql:q.length=ds.length
 fi:∀p∈q,fiB p.l (fs.map Fm.p)=true
theorem wd_ne{x:Pw}(h:wdB x=true):∀d∈x.ps,d.nm.toList≠[]:=by
 simp only[wdB,chB,arB,ppB,itB,amB,Bool.and_eq_true,decide_eq_true_eq]at h
 obtain⟨-,⟨-,h7,-⟩,-⟩:=h
 intro d hd e
 obtain⟨k,hk⟩:=allK_mem h7 hd
 simp only[psQ,rgB,Bool.and_eq_true]at hk
 have h1:=hk.1.1
 have h2:d.nm.size=0:=by
  rw[ByteArray.toList_eq]at e;show d.nm.data.size=0
  rw[← Array.length_toList,e];rfl
 simp[nameB,h2]at h1
theorem EvF.of{x:Pw}{ds:List Pd}{fs:List Fm}{q:List (Sl ByteArray)}(h:evB x ds fs q=true):EvF x ds fs q:=by
 simp only[evB,dsB,Bool.and_eq_true,decide_eq_true_eq,phsB,List.all_eq_true]at h
 obtain⟨⟨h1,h2,h3⟩,h4,h5,h6⟩:=h
 refine⟨WdF.of h1,wd_ne h1,fun d hd=>?_,h2,h5,fun p hp=>?_⟩
 ·obtain⟨k,hk⟩:=allK_mem h3 hd
  simp only[ddQ,Bool.and_eq_true]at hk
  exact DdF.of hk.1
 ·unfold fiB
  rw[← afB_p,h4,h6 p hp];rfl
theorem pdS_len(P:List ByteArray)(ps:List FmP):(pdS P ps).length≤100000:=by
 unfold pdS
 split
 ·rename_i h
  simp only[fiB,Bool.and_eq_true]at h
  have h1:=(afP_small h.1).1
  have h2:=occ_len P ps
  have h3:=foldD_len ps (occL P ps) [(0,730499)]
  have h4:(occL P ps).length*ps.length≤20*20:=Nat.mul_le_mul (by omega) h1
  unfold pdL
  simp only[List.length_singleton]at h3
  omega
 ·simp
theorem goodS_len{x:Pw}{d:Pd}{P:List ByteArray}{fs:List FmP}(h:WdF x):(goodS x d P fs).length≤110001:=by
 have h1:=metL_len (ownS x d) (pdS P fs)
 have h2:(ownS x d).length≤10001:=win_len h.le h.win
 have h3:=pdS_len P fs
 unfold goodS;omega
theorem ret_vi{v:Value}{a b:Int}(h:a=b):Ending.returned (.tuple #[v,.int .i64 a])=.returned (.tuple #[v,.int .i64 b]):=by rw[h]
def liR(S:List Sp):List Sp × Int:=if 300<S.length then([],3) else(S,0)
noncomputable def gdR (x:Pw) (ds:List Pd) (fs:List Fm) (q:List (Sl ByteArray)) (i:Int):List Sp × Int :=
 if evC x ds fs q i=0 then(match ds[i.toNat]?,q[i.toNat]? with|some d,some p=>liR (goodS x d p.l (fs.map Fm.p))|_,_=>([],0)) else([],evC x ds fs q i)
theorem evC_ok{x:Pw}{ds:List Pd}{fs:List Fm}{q:List (Sl ByteArray)}{i:Int}(h:evC x ds fs q i=0):evB x ds fs q=true∧0≤i∧i<ds.length:=by
 unfold evC at h
 split at h
 ·rename_i h1
  split at h
  ·rename_i h2
   have:=inB_iff'.1 h2
   exact⟨h1,by omega,by omega⟩
  ·cases h
 ·cases h
theorem specGoodDays_any(x:Wd)(s:Sl Dd)(g:Sl Fm)(q:Sl (Sl ByteArray))(i:Int)(lo hi:Nat)(w:World)(h:RdW w lo hi x)(h2:RdDd w lo hi s)(h3:SrF w lo hi g)(h4:SrPh w lo hi q) :
 Calls Tryz.prog 5 #[.agg #[.slice x.rs.A x.rs.l.length x.rs.c,.int .i64 x.fr,.int .i64 x.to_,.slice x.ps.A x.ps.l.length x.ps.c,.slice x.ts.A x.ts.l.length x.ts.c,.slice x.pl.A x.pl.l.length x.pl.c,.slice x.ws.A x.ws.l.length x.ws.c,.slice x.st.A x.st.l.length x.st.c,.slice x.se.A x.se.l.length x.se.c,.slice x.ha.A x.ha.l.length x.ha.c,.slice s.A s.l.length s.c,.slice g.A g.l.length g.c,.slice q.A q.l.length q.c],.int .i64 i] w fun e w'=>∃v,e=.returned (.tuple #[v,.int .i64 (gdR x.p (s.l.map Dd.p) g.l q.l i).2])∧w'.ownsRow w.heap.size 83 2 v (gdR x.p (s.l.map Dd.p) g.l q.l i).1.length ((gdR x.p (s.l.map Dd.p) g.l q.l i).1.flatMap spC)∧Up w w':=by
 have u:=Up.alloc w (.cells #[.slice x.rs.A x.rs.l.length x.rs.c,.int .i64 x.fr,.int .i64 x.to_,.slice x.ps.A x.ps.l.length x.ps.c,.slice x.ts.A x.ts.l.length x.ts.c,.slice x.pl.A x.pl.l.length x.pl.c,.slice x.ws.A x.ws.l.length x.ws.c,.slice x.st.A x.st.l.length x.st.c,.slice x.se.A x.se.l.length x.se.c,.slice x.ha.A x.ha.l.length x.ha.c,.slice s.A s.l.length s.c,.slice g.A g.l.length g.c,.slice q.A q.l.length q.c] 63)
 have hA:=Bx.new w #[.slice x.rs.A x.rs.l.length x.rs.c,.int .i64 x.fr,.int .i64 x.to_,.slice x.ps.A x.ps.l.length x.ps.c,.slice x.ts.A x.ts.l.length x.ts.c,.slice x.pl.A x.pl.l.length x.pl.c,.slice x.ws.A x.ws.l.length x.ws.c,.slice x.st.A x.st.l.length x.st.c,.slice x.se.A x.se.l.length x.se.c,.slice x.ha.A x.ha.l.length x.ha.c,.slice s.A s.l.length s.c,.slice g.A g.l.length g.c,.slice q.A q.l.length q.c] 63
 have CC:=qh (fun(wx:World) (v:Up w wx)=>l25Code_any x s g q i lo hi wx (h.up v) (h2.up v) (h3.up v) (h4.up v))
 by_cases hc:evC x.p (s.l.map Dd.p) g.l q.l i=0
 ·obtain⟨hev,hi0,hi1⟩:=evC_ok hc
  have ef:=EvF.of hev
  rw[List.length_map]at hi1;obtain⟨k,rfl⟩:∃k:Nat,i=k:=⟨i.toNat,by omega⟩
  have hk:k<s.l.length:=by omega
  have hkq:k<q.l.length:=by have:=ef.ql;rw[List.length_map]at this;omega
  have hsd:s.l[k]?=some (s.l[k]'hk):=List.getElem?_eq_getElem hk
  have hsq:q.l[k]?=some (q.l[k]'hkq):=List.getElem?_eq_getElem hkq
  have HR:=qh (show gdR x.p (s.l.map Dd.p) g.l q.l k=liR (goodS x.p (s.l[k]'hk).p (q.l[k]'hkq).l (g.l.map Fm.p)) by
   unfold gdR;rw[if_pos hc,Int.toNat_natCast,List.getElem?_map,hsd,hsq];rfl)
  have CG:=qh (fun(wx:World) (v:Up w wx)=>l25Good_any x s g q k _ _ lo hi wx (h.up v) (h2.up v) (h3.up v) (h4.up v) hsd hsq ef.wd (ef.dd _ (List.mem_map_of_mem (List.mem_of_getElem? hsd))) (pdS_len _ _))
  have HL:=qh (goodS_len (d:=(s.l[k]'hk).p) (P:=(q.l[k]'hkq).l) (fs:=g.l.map Fm.p) ef.wd)
  rw[hc]at CC;obtain⟨S,hS⟩:∃S,S=goodS x.p (s.l[k]'hk).p (q.l[k]'hkq).l (g.l.map Fm.p):=⟨_,rfl⟩
  rw[← hS]at HR CG HL;rw[HR.out];clear hS hsd hsq hev ef hc h h2 h3 h4 HR hi1;go_enter Tryz.func5,Tryz.ntmps5
  go_wp2_with fail
  generalize w.alloc (.cells #[.slice x.rs.A x.rs.l.length x.rs.c,.int .i64 x.fr,.int .i64 x.to_,.slice x.ps.A x.ps.l.length x.ps.c,.slice x.ts.A x.ts.l.length x.ts.c,.slice x.pl.A x.pl.l.length x.pl.c,.slice x.ws.A x.ws.l.length x.ws.c,.slice x.st.A x.st.l.length x.st.c,.slice x.se.A x.se.l.length x.se.c,.slice x.ha.A x.ha.l.length x.ha.c,.slice s.A s.l.length s.c,.slice g.A g.l.length g.c,.slice q.A q.l.length q.c] 63)=X at *
  refine(CC.out _ u).mono ?_
  rintro e w1 ⟨rfl,v⟩
  replace hA:=hA.up v;replace u:=u.trans v;clear v;obtain⟨x0,x1,x2,x3,x4,x5,x6,x7,x8,x9,x10,x11,x12⟩:=hA.c13
  go_wp2_with fail
  refine(CG.out _ u).mono ?_
  rintro e w2 ⟨v2,rfl,ho,v⟩
  obtain⟨A2,c2,rfl,hc2,hm2,-,-⟩:=own_form ho
  have HO:=qh (own_base ho u.size)
  have HN:Hid (S.length≤2000000):=qh (by have:=HL.out;omega)
  replace u:=u.trans v;clear v ho x0 x1 x2 x3 x4 x5 x6 x7 x8 x9 x10 x11 x12;have CL:=qh (l02Result_any A2 S.length c2 w2 HN.out)
  by_cases h3:300<S.length
  ·have HT:=qh (show liR S=([],3) by unfold liR;rw[if_pos h3])
   rw[if_pos h3]at CL;go_wp2_with (go_at_call 18;refine CL.out.mono ?_;rintro e w3 ⟨rfl,rfl⟩)
   go_ret2;exact⟨.slice none 0 0,ret_vi (by rw[HT.out]),by rw[HT.out];exact World.ownsRow_nil _ _ _ _,u⟩
  ·have HT:=qh (show liR S=(S,0) by unfold liR;rw[if_neg h3])
   rw[if_neg h3]at CL;go_wp2_with (go_at_call 18;refine CL.out.mono ?_;rintro e w3 ⟨rfl,rfl⟩)
   go_ret2;exact⟨.slice A2 S.length c2,ret_vi (by rw[HT.out]),by rw[HT.out];exact HO.out,u⟩
 ·have HR:=qh (show gdR x.p (s.l.map Dd.p) g.l q.l i=([],evC x.p (s.l.map Dd.p) g.l q.l i) by unfold gdR;rw[if_neg hc])
  rw[HR.out];obtain⟨cc,hcc⟩:∃z,z=evC x.p (s.l.map Dd.p) g.l q.l i:=⟨_,rfl⟩
  rw[← hcc]at hc CC ⊢
  have hcd:(cc != 0)=true:=bne_iff_ne.2 hc
  clear hcc h h2 h3 h4 HR;go_enter Tryz.func5,Tryz.ntmps5
  go_wp2_with fail
  generalize w.alloc (.cells #[.slice x.rs.A x.rs.l.length x.rs.c,.int .i64 x.fr,.int .i64 x.to_,.slice x.ps.A x.ps.l.length x.ps.c,.slice x.ts.A x.ts.l.length x.ts.c,.slice x.pl.A x.pl.l.length x.pl.c,.slice x.ws.A x.ws.l.length x.ws.c,.slice x.st.A x.st.l.length x.st.c,.slice x.se.A x.se.l.length x.se.c,.slice x.ha.A x.ha.l.length x.ha.c,.slice s.A s.l.length s.c,.slice g.A g.l.length g.c,.slice q.A q.l.length q.c] 63)=X at *
  refine(CC.out _ u).mono ?_
  rintro e w1 ⟨rfl,v⟩
  replace u:=u.trans v;go_wp2;go_ret2;exact⟨_,rfl,World.ownsRow_nil _ _ _ _,u⟩
end Go.Proofs.YtaoplcclemckjaaGreatDoor
