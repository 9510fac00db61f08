/- The days that a source of a deed allows, and all of them: the reference's. -/
import Derived.Test.YtihcmhmanfobcaaGreatDoorCp
import Derived.Test.YtihcmhmanfobcaaGreatDoorVk
set_option maxHeartbeats 4000000
set_option maxRecDepth 100000
namespace Go.Proofs.YtihcmhmanfobcaaGreatDoor
open Go.RowKit Go.Sort
abbrev vCqX(x:Wd):Array Value:=#[.slice x.rs.A x.rs.l.length x.rs.c,.int .i64 x.fr,.int .i64 x.to_,.slice x.ps.A x.ps.l.length x.ps.c,.slice x.ts.A x.ts.l.length x.ts.c,.slice x.pl.A x.pl.l.length x.pl.c,.slice x.ws.A x.ws.l.length x.ws.c,.slice x.st.A x.st.l.length x.st.c,.slice x.se.A x.se.l.length x.se.c,.slice x.ha.A x.ha.l.length x.ha.c]
abbrev vCqD(d:Dd):Array Value:=#[.string d.nm,.slice d.da.A d.da.l.length d.da.c,.slice d.wi.A d.wi.l.length d.wi.c,.string d.pl,.string d.se,.string d.ha,.slice d.ci.A d.ci.l.length d.ci.c]
theorem l17Source_any(x:Wd)(d:Dd)(k lo hi lo2 hi2:Nat)(w:World)(h:RdW w lo hi x)(h2:RdE w lo2 hi2 d)(hx:WdF x.p)(hd:DdF x.p d.p)(hk:k≤4) :
 Calls Tryz.prog 18 #[.agg #[.slice x.rs.A x.rs.l.length x.rs.c,.int .i64 x.fr,.int .i64 x.to_,.slice x.ps.A x.ps.l.length x.ps.c,.slice x.ts.A x.ts.l.length x.ts.c,.slice x.pl.A x.pl.l.length x.pl.c,.slice x.ws.A x.ws.l.length x.ws.c,.slice x.st.A x.st.l.length x.st.c,.slice x.se.A x.se.l.length x.se.c,.slice x.ha.A x.ha.l.length x.ha.c],d.val,.int .i64 k] w fun e w'=>∃v,e=.returned v∧w'.ownsRow w.heap.size 84 2 v (srcS x.p d.p k).length ((srcS x.p d.p k).flatMap spC)∧Up w w':=by
 rcases k with _|_|_|_|_|k
 ·exact l17Source_0 x d lo hi lo2 hi2 w h h2 hx hd
 ·exact l17Source_1 x d lo hi lo2 hi2 w h h2 hx hd
 ·by_cases hp:d.pl.toList=[]
  ·exact l17Source_2n x d lo hi lo2 hi2 w h h2 hx hd hp
  ·exact l17Source_2y x d lo hi lo2 hi2 w h h2 hx hd hp
 ·by_cases hp:d.se.toList=[]
  ·exact l17Source_3n x d lo hi lo2 hi2 w h h2 hx hd hp
  ·exact l17Source_3y x d lo hi lo2 hi2 w h h2 hx hd hp
 ·by_cases hp:d.ha.toList=[]
  ·exact l17Source_4n x d lo hi lo2 hi2 w h h2 hx hd hp
  ·exact l17Source_4y x d lo hi lo2 hi2 w h h2 hx hd hp
 ·omega
def evC(x:Pw)(ds:List Pd)(fs:List Fm)(q:List (Sl ByteArray))(i:Int):Int:=if evB x ds fs q=true then(if inB i 0 ((ds.length:Int)-1)=true then 0 else 2) else 1
theorem l25Code_any(x:Wd)(s:Sl Dd)(g:Sl Fm)(q:Sl (Sl ByteArray))(i:Int)(lo hi:Nat)(w:World)(h:RdW w lo hi x)(h2:RdDd w lo hi s)(h3:SrF w lo hi g)(h4:SrPh w lo hi q) :
 Calls Tryz.prog 17 #[.agg #[.slice x.rs.A x.rs.l.length x.rs.c,.int .i64 x.fr,.int .i64 x.to_,.slice x.ps.A x.ps.l.length x.ps.c,.slice x.ts.A x.ts.l.length x.ts.c,.slice x.pl.A x.pl.l.length x.pl.c,.slice x.ws.A x.ws.l.length x.ws.c,.slice x.st.A x.st.l.length x.st.c,.slice x.se.A x.se.l.length x.se.c,.slice x.ha.A x.ha.l.length x.ha.c,.slice s.A s.l.length s.c,.slice g.A g.l.length g.c,.slice q.A q.l.length q.c],.int .i64 i] w fun e w'=>e=.returned (.int .i64 (evC x.p (s.l.map Dd.p) g.l q.l i))∧Up w w':=by
 have u:=Up.alloc w (.cells #[.slice x.rs.A x.rs.l.length x.rs.c,.int .i64 x.fr,.int .i64 x.to_,.slice x.ps.A x.ps.l.length x.ps.c,.slice x.ts.A x.ts.l.length x.ts.c,.slice x.pl.A x.pl.l.length x.pl.c,.slice x.ws.A x.ws.l.length x.ws.c,.slice x.st.A x.st.l.length x.st.c,.slice x.se.A x.se.l.length x.se.c,.slice x.ha.A x.ha.l.length x.ha.c,.slice s.A s.l.length s.c,.slice g.A g.l.length g.c,.slice q.A q.l.length q.c] 63)
 have hA:=Bx.new w #[.slice x.rs.A x.rs.l.length x.rs.c,.int .i64 x.fr,.int .i64 x.to_,.slice x.ps.A x.ps.l.length x.ps.c,.slice x.ts.A x.ts.l.length x.ts.c,.slice x.pl.A x.pl.l.length x.pl.c,.slice x.ws.A x.ws.l.length x.ws.c,.slice x.st.A x.st.l.length x.st.c,.slice x.se.A x.se.l.length x.se.c,.slice x.ha.A x.ha.l.length x.ha.c,.slice s.A s.l.length s.c,.slice g.A g.l.length g.c,.slice q.A q.l.length q.c] 63
 have hsl:=h2.len
 have CS:=qh (fun(wx:World) (v:Up w wx)=>specIsEvidence_any x s g q lo hi wx (h.up v) (h2.up v) (h3.up v) (h4.up v))
 obtain⟨b1,e1⟩:∃z,evB x.p (s.l.map Dd.p) g.l q.l=z:=⟨_,rfl⟩
 obtain⟨b2,e2⟩:∃z,inB i 0 ((s.l.length:Int)-1)=z:=⟨_,rfl⟩
 have HE:=qh (show evC x.p (s.l.map Dd.p) g.l q.l i=if b1=true then(if b2=true then 0 else 2) else 1 by unfold evC;rw[e1,List.length_map,e2])
 have CI:=qh (fun(wx:World)=>l01InU i 0 ((s.l.length:Int)-1) wx)
 rw[e1]at CS;rw[e2]at CI;clear h h2 h3 h4 e1 e2;have hw1:IntKind.i64.wrap ((s.l.length:Int)-1)=(s.l.length:Int)-1:=IntWalk.i64_in _ (by omega)
 go_enter Tryz.func17,Tryz.ntmps17
 go_wp2_with fail
 generalize w.alloc (.cells #[.slice x.rs.A x.rs.l.length x.rs.c,.int .i64 x.fr,.int .i64 x.to_,.slice x.ps.A x.ps.l.length x.ps.c,.slice x.ts.A x.ts.l.length x.ts.c,.slice x.pl.A x.pl.l.length x.pl.c,.slice x.ws.A x.ws.l.length x.ws.c,.slice x.st.A x.st.l.length x.st.c,.slice x.se.A x.se.l.length x.se.c,.slice x.ha.A x.ha.l.length x.ha.c,.slice s.A s.l.length s.c,.slice g.A g.l.length g.c,.slice q.A q.l.length q.c] 63)=X at *
 obtain⟨x0,x1,x2,x3,x4,x5,x6,x7,x8,x9,x10,x11,x12⟩:=hA.c13
 go_wp2_with fail
 refine(CS.out _ u).mono ?_
 rintro e w1 ⟨rfl,v⟩
 replace u:=u.trans v;replace hA:=hA.up v;clear v x0 x1 x2 x3 x4 x5 x6 x7 x8 x9 x10 x11 x12;obtain⟨x0,x1,x2,x3,x4,x5,x6,x7,x8,x9,x10,x11,x12⟩:=hA.c13
 rcases b1 with _|_
 ·go_wp2
  go_ret;exact⟨by rw[HE.out];rfl,u⟩
 ·go_wp2_with fail
  refine(CI.out _).mono ?_
  rintro e w2 ⟨rfl,v⟩
  replace u:=u.trans v;clear v x0 x1 x2 x3 x4 x5 x6 x7 x8 x9 x10 x11 x12;rcases b2 with _|_
  ·go_wp2
   go_ret;exact⟨by rw[HE.out];rfl,u⟩
  ·go_wp2
   go_ret;exact⟨by rw[HE.out];rfl,u⟩
structure EvG (x:Pw) (ds:List Pd) (fs:List Fm) (q:List (Sl ByteArray)):Prop where
 wd:WdF x
 ne:∀d∈x.ps,d.nm.toList≠[]
 dd:∀d∈ds,DdF x d
 n8:ds.length≤8
 ql:q.length=ds.length
theorem wd_ne{x:Pw}(h:wdB x=true):∀d∈x.ps,d.nm.toList≠[]:=by
 simp only[wdB,chB,arB,ppB,itB,amB,Bool.and_eq_true,decide_eq_true_eq]at h
 obtain⟨-,⟨-,h7,-⟩,-⟩:=h
 intro d hd e
 obtain⟨k,hk⟩:=allK_mem h7 hd
 simp only[psQ,rgB,Bool.and_eq_true]at hk
 have h1:=hk.1.1
 have h2:d.nm.size=0:=by
  rw[ByteArray.toList_eq]at e;show d.nm.data.size=0
  rw[← Array.length_toList,e];rfl
 simp[nameB,h2]at h1
theorem EvG.of{x:Pw}{ds:List Pd}{fs:List Fm}{q:List (Sl ByteArray)}(h:evB x ds fs q=true):EvG x ds fs q:=by
 simp only[evB,dsB,Bool.and_eq_true,decide_eq_true_eq,phsB,List.all_eq_true]at h
 obtain⟨⟨h1,h2,h3⟩,h4,h5,h6⟩:=h
 refine⟨WdF.of h1,wd_ne h1,fun d hd=>?_,h2,h5⟩
 obtain⟨k,hk⟩:=allK_mem h3 hd
 simp only[ddQ,Bool.and_eq_true]at hk
 exact DdF.of hk.1
theorem evC_ok{x:Pw}{ds:List Pd}{fs:List Fm}{q:List (Sl ByteArray)}{i:Int}(h:evC x ds fs q i=0):evB x ds fs q=true∧0≤i∧i<ds.length:=by
 unfold evC at h
 split at h
 ·rename_i h1
  split at h
  ·rename_i h2
   have:=inB_iff'.1 h2
   exact⟨h1,by omega,by omega⟩
  ·cases h
 ·cases h
end Go.Proofs.YtihcmhmanfobcaaGreatDoor
