/- What a valid world and a valid deed give to their days; the sets of the sources. -/
import Derived.Test.YtihcmhmanfobcaaGreatDoorCn
import Derived.Test.YtihcmhmanfobcaaGreatDoorVh
set_option maxHeartbeats 8000000
set_option maxRecDepth 100000
namespace Go.Proofs.YtihcmhmanfobcaaGreatDoor
open Go.RowKit Go.Sort
theorem allK_mem{α:Type}{l:List α}{q:Nat→α→Bool}(h:allK l q=true){d:α}(hd:d∈l):∃k,q k d=true:=by
 obtain⟨k,hk⟩:=List.getElem?_of_mem hd
 exact⟨k,allK_yes h hk⟩
structure WdF (x:Pw):Prop where
 rs:∀d∈x.rs,spanB d.fr d.to_=true
 fr:0≤x.fr
 to_:x.to_≤730499
 le:x.fr≤x.to_
 win:x.to_-x.fr≤20000
 ps:∀d∈x.ps,spanB d.fr d.to_=true
 ts:∀d∈x.ts,spanB d.fr d.to_=true
 tl:x.ts.length≤60
 pl:x.pl.length≤12
 wl:x.ws.length≤40
 ws:WaysOk x.ws x.pl.length
 sl:x.st.length≤40
 st:∀s∈x.st,syB x.pl.length s=true
 se:∀d∈x.se,spanB d.fr d.to_=true
 sel:x.se.length≤40
 ha:∀d∈x.ha,spanB d.fr d.to_=true
 hal:x.ha.length≤40
theorem WdF.of{x:Pw}(h:wdB x=true):WdF x:=by
 simp only[wdB,chB,arB,ppB,itB,amB,Bool.and_eq_true,decide_eq_true_eq]at h
 obtain⟨⟨⟨h1,-⟩,h2,h3,h4,h5⟩,⟨⟨-,h6⟩,h7,h8⟩,⟨h9,h10,h11⟩,⟨h12,h13⟩,h14,h15⟩:=h
 have hd:∀n:Int,dayB n=true→0≤n∧n≤730499:=fun n hn=>by simpa[dayB,inB] using hn
 obtain⟨l1,l2,l3,l4⟩:=ldB_yes h9
 refine⟨fun d hm=>?_,(hd _ h2).1,(hd _ h3).2,h4,h5,fun d hm=>?_,fun d hm=>?_,h6,l2,l3,l4,h10,fun s hm=>?_,fun d hm=>?_,h13,fun d hm=>?_,h15⟩
 ·obtain⟨k,hk⟩:=allK_mem h1 hm
  simp only[arQ,rgB,Bool.and_eq_true]at hk
  exact hk.1.2
 ·obtain⟨k,hk⟩:=allK_mem h7 hm
  simp only[psQ,rgB,Bool.and_eq_true]at hk
  exact hk.1.2
 ·have hk:=List.all_eq_true.1 h8 d hm
  simp only[tmB,Bool.and_eq_true]at hk
  have h2:=hk.2
  split at h2
  ·simp only[Bool.and_eq_true]at h2;exact h2.1
  ·cases h2
 ·obtain⟨k,hk⟩:=allK_mem h11 hm
  simp only[stQ,Bool.and_eq_true]at hk
  exact hk.1
 ·obtain⟨k,hk⟩:=allK_mem h12 hm
  simp only[amQ,rgB,Bool.and_eq_true]at hk
  exact hk.1.2
 ·obtain⟨k,hk⟩:=allK_mem h14 hm
  simp only[amQ,rgB,Bool.and_eq_true]at hk
  exact hk.1.2
theorem win_set{x:Pw}(h:WdF x):[(x.fr,x.to_)]=dset fun n=>inB n x.fr x.to_ :=
 (dset_one h.fr h.le h.to_).trans (dset_congr fun _ _ _=>rfl)
theorem src_1{x:Pw}{d:Pd}(h:WdF x):metL [(x.fr,x.to_)] (sgnS x.ps x.ts d.wi)=srcS x d 1:=by
 rw[win_set h];unfold sgnS;rw[metL_dset];rfl
theorem src_2{x:Pw}{d:Pd}(h:WdF x)(hp:d.pl.toList≠[]):metL [(x.fr,x.to_)] (unL (cbL x.ws x.pl.length x.st (plI x d)))=srcS x d 2:=by
 have e:(d.pl.toList==[])=false:=by simpa using hp
 have hdy:DyS (cbL x.ws x.pl.length x.st (plI x d)):=cbT_dy (fun s hs=>by have:=h.st s hs;simp[syB]at this;exact this.2) _
 rw[win_set h,unL_dset hdy,metL_dset];refine dset_congr fun n _ _=>?_
 show(inB n x.fr x.to_ && hasL (cbL x.ws x.pl.length x.st (plI x d)) n)=(inB n x.fr x.to_ && ((d.pl.toList==[]) || hasL (cbL x.ws x.pl.length x.st (plI x d)) n))
 rw[e];rfl
theorem src_3{x:Pw}{d:Pd}(h:WdF x)(hp:d.se.toList≠[]):metL [(x.fr,x.to_)] (unL (mkL x.se d.se))=srcS x d 3:=by
 have e:(d.se.toList==[])=false:=by simpa using hp
 have hdy:DyS (mkL x.se d.se):=mkL_dy h.se
 rw[win_set h,unL_dset hdy,metL_dset];refine dset_congr fun n _ _=>?_
 show(inB n x.fr x.to_ && hasL (mkL x.se d.se) n)=(inB n x.fr x.to_ && ((d.se.toList==[]) || hasL (mkL x.se d.se) n))
 rw[e];rfl
theorem src_4{x:Pw}{d:Pd}(h:WdF x)(hp:d.ha.toList≠[]):metL [(x.fr,x.to_)] (unL (mkL x.ha d.ha))=srcS x d 4:=by
 have e:(d.ha.toList==[])=false:=by simpa using hp
 have hdy:DyS (mkL x.ha d.ha):=mkL_dy h.ha
 rw[win_set h,unL_dset hdy,metL_dset];refine dset_congr fun n _ _=>?_
 show(inB n x.fr x.to_ && hasL (mkL x.ha d.ha) n)=(inB n x.fr x.to_ && ((d.ha.toList==[]) || hasL (mkL x.ha d.ha) n))
 rw[e];rfl
theorem src_n{x:Pw}{d:Pd}{k:Nat}(h:WdF x)(hp:(k=2∧d.pl.toList=[])∨(k=3∧d.se.toList=[])∨(k=4∧d.ha.toList=[])):[(x.fr,x.to_)]=srcS x d k:=by
 rw[win_set h];refine dset_congr fun n _ _=>?_
 rcases hp with⟨rfl,hp⟩|⟨rfl,hp⟩|⟨rfl,hp⟩<;>simp[srcB,hp]
theorem src_len{x:Pw}{d:Pd}{k:Nat}(h:WdF x):(srcS x d k).length≤10001:=win_len h.le h.win
structure DdF (x:Pw) (d:Pd):Prop where
 da:∀c∈d.da,clB c=true
 dl:d.da.length≤8
 wi:wiB x.ps d.wi=true
 pl:d.pl.toList≠[]→0≤(ixB x.pl fun s=>s.toList==d.pl.toList)∧plI x d<x.pl.length
theorem DdF.of{x:Pw}{l:List Pd}{d:Pd}(h:d0B x l d=true):DdF x d:=by
 rw[d0_parts]at h;simp only[Bool.and_eq_true]at h
 obtain⟨-,h1,h2,-,h3,-⟩:=h
 simp only[dtB,Bool.and_eq_true,decide_eq_true_eq,List.all_eq_true]at h1
 refine⟨h1.2,h1.1,h2,fun hp=>?_⟩
 rcases ixB_or x.pl (fun s=>s.toList==d.pl.toList) with⟨-,h4⟩|⟨k,s,h4,h5,-,-⟩
 ·exfalso
  have:(d.pl.toList==[])=false:=by simpa using hp
  rw[this,Bool.false_or,List.any_eq_true]at h3;obtain⟨s,hs,h6⟩:=h3
  rw[h4 s hs]at h6;cases h6
 ·unfold plI
  rw[h4];exact⟨by omega,by simpa using (List.getElem?_eq_some_iff.1 h5).1⟩
abbrev vCpX(x:Wd):Array Value:=#[.slice x.rs.A x.rs.l.length x.rs.c,.int .i64 x.fr,.int .i64 x.to_,.slice x.ps.A x.ps.l.length x.ps.c,.slice x.ts.A x.ts.l.length x.ts.c,.slice x.pl.A x.pl.l.length x.pl.c,.slice x.ws.A x.ws.l.length x.ws.c,.slice x.st.A x.st.l.length x.st.c,.slice x.se.A x.se.l.length x.se.c,.slice x.ha.A x.ha.l.length x.ha.c]
abbrev vCpD(d:Dd):Array Value:=#[.string d.nm,.slice d.da.A d.da.l.length d.da.c,.slice d.wi.A d.wi.l.length d.wi.c,.string d.pl,.string d.se,.string d.ha,.slice d.ci.A d.ci.l.length d.ci.c]
theorem sgnS_len{ps:List Nm}{ts:List Tm}{l:List Wi}(hd:∀d∈ps,spanB d.fr d.to_=true)(hd2:∀d∈ts,spanB d.fr d.to_=true)(ht:ts.length≤60)(hw:wiB ps l=true):(sgnS ps ts l).length≤100000:=by
 simp only[wiB,Bool.and_eq_true,decide_eq_true_eq,List.all_eq_true]at hw
 have h:∀k,k≤l.length→(sgnS ps ts (l.take k)).length≤1+61*k:=by
  intro k
  induction k with
  | zero=>intro _;show(sgnS ps ts []).length≤_;rw[← sgnS_nil];simp
  | succ k ih =>
    intro hk
    have e:l[k]?=some (l[k]'(by omega)):=List.getElem?_eq_getElem (by omega)
    have h1:=ih (by omega)
    have h2:=couS_len (ps:=ps) (ts:=ts) (z:=l[k]'(by omega)) hd2 hd (hw.2 _ (List.getElem_mem _))
    have h3:=metL_len (sgnS ps ts (l.take k)) (couS ps ts (l[k]'(by omega)))
    rw[sgnS_succ e]at h3;omega
 have:=h l.length (Nat.le_refl _)
 rw[List.take_of_length_le (Nat.le_refl _)]at this;omega
theorem l17Source_0(x:Wd)(d:Dd)(lo hi lo2 hi2:Nat)(w:World)(h:RdW w lo hi x)(h2:RdE w lo2 hi2 d)(hx:WdF x.p)(hd:DdF x.p d.p) :
 Calls Tryz.prog 18 #[.agg #[.slice x.rs.A x.rs.l.length x.rs.c,.int .i64 x.fr,.int .i64 x.to_,.slice x.ps.A x.ps.l.length x.ps.c,.slice x.ts.A x.ts.l.length x.ts.c,.slice x.pl.A x.pl.l.length x.pl.c,.slice x.ws.A x.ws.l.length x.ws.c,.slice x.st.A x.st.l.length x.st.c,.slice x.se.A x.se.l.length x.se.c,.slice x.ha.A x.ha.l.length x.ha.c],d.val,.int .i64 0] w fun e w'=>∃v,e=.returned v∧w'.ownsRow w.heap.size 84 2 v (srcS x.p d.p 0).length ((srcS x.p d.p 0).flatMap spC)∧Up w w':=by
 have u:=(Up.alloc w (.cells (vCpX x) 59)).allocs (.cells (vCpD d) 81)
 have hA:=(Bx.new w (vCpX x) 59).up (Up.alloc _ (.cells (vCpD d) 81))
 have hD:=Bx.new (w.alloc (.cells (vCpX x) 59)) (vCpD d) 81
 have hsz:(w.alloc (.cells (vCpX x) 59)).heap.size=w.heap.size+1:=by simp
 rw[hsz]at hD;have hsz2:((w.alloc (.cells (vCpX x) 59)).alloc (.cells (vCpD d) 81)).heap.size=w.heap.size+2:=by simp
 have hW:=World.ownsRow_lit (base:=w.heap.size) (e:=84) (size:=2) ((w.alloc (.cells (vCpX x) 59)).alloc (.cells (vCpD d) 81)) #[.int .i64 x.fr,.int .i64 x.to_] 1 u.size (by simp[maxLen]) rfl
 rw[hsz2]at hW;have v:=Up.alloc ((w.alloc (.cells (vCpX x) 59)).alloc (.cells (vCpD d) 81)) (.cells #[.int .i64 x.fr,.int .i64 x.to_] 84)
 obtain⟨x0,x1,x2,x3,x4,x5,x6,x7,x8,x9⟩:=hA.c10
 obtain⟨y0,y1,y2,y3,y4,y5,y6,y7,y8,y9⟩:=(hA.up v).c10
 obtain⟨d0,d1,d2,d3,d4,d5,d6⟩:=(hD.up v).c7
 replace u:=u.trans v;clear v hA hD hsz hsz2;have CS:=qh (fun(wx:World) (v:Up w wx)=>l12Set_any x.rs.A d.da.A x.rs.l d.da.l x.rs.c d.da.c lo hi lo2 hi2 x.fr x.to_ wx ((h.rs.up v).rd) (h.rs.up v).hhi h.rs.len hx.rs ((h2.da.up v).rd) (h2.da.up v).hhi (by have:=hd.dl;simp only[]at this;omega) hd.da hx.fr hx.to_ hx.le)
 clear h h2 hx hd;obtain⟨dnm,dda,dwi,dpl,dse,dha,dci⟩:=d
 simp only[]at *;go_enter Tryz.func18,Tryz.ntmps18
 go_wp2_with fail
 generalize (((w.alloc (.cells (vCpX x) 59)).alloc (.cells (vCpD ⟨dnm,dda,dwi,dpl,dse,dha,dci⟩) 81)).alloc (.cells #[.int .i64 x.fr,.int .i64 x.to_] 84))=X at *
 refine(CS.out _ u).mono ?_
 rintro e w4 ⟨v4,rfl,ho,v⟩
 have HO:=qh (own_base ho u.size)
 clear ho;go_wp2;go_ret;exact⟨v4,rfl,HO.out,u.trans v⟩
theorem l17Source_1(x:Wd)(d:Dd)(lo hi lo2 hi2:Nat)(w:World)(h:RdW w lo hi x)(h2:RdE w lo2 hi2 d)(hx:WdF x.p)(hd:DdF x.p d.p) :
 Calls Tryz.prog 18 #[.agg #[.slice x.rs.A x.rs.l.length x.rs.c,.int .i64 x.fr,.int .i64 x.to_,.slice x.ps.A x.ps.l.length x.ps.c,.slice x.ts.A x.ts.l.length x.ts.c,.slice x.pl.A x.pl.l.length x.pl.c,.slice x.ws.A x.ws.l.length x.ws.c,.slice x.st.A x.st.l.length x.st.c,.slice x.se.A x.se.l.length x.se.c,.slice x.ha.A x.ha.l.length x.ha.c],d.val,.int .i64 1] w fun e w'=>∃v,e=.returned v∧w'.ownsRow w.heap.size 84 2 v (srcS x.p d.p 1).length ((srcS x.p d.p 1).flatMap spC)∧Up w w':=by
 have u:=(Up.alloc w (.cells (vCpX x) 59)).allocs (.cells (vCpD d) 81)
 have hA:=(Bx.new w (vCpX x) 59).up (Up.alloc _ (.cells (vCpD d) 81))
 have hD:=Bx.new (w.alloc (.cells (vCpX x) 59)) (vCpD d) 81
 have hsz:(w.alloc (.cells (vCpX x) 59)).heap.size=w.heap.size+1:=by simp
 rw[hsz]at hD;have hsz2:((w.alloc (.cells (vCpX x) 59)).alloc (.cells (vCpD d) 81)).heap.size=w.heap.size+2:=by simp
 have hW:=World.ownsRow_lit (base:=w.heap.size) (e:=84) (size:=2) ((w.alloc (.cells (vCpX x) 59)).alloc (.cells (vCpD d) 81)) #[.int .i64 x.fr,.int .i64 x.to_] 1 u.size (by simp[maxLen]) rfl
 rw[hsz2]at hW;have v:=Up.alloc ((w.alloc (.cells (vCpX x) 59)).alloc (.cells (vCpD d) 81)) (.cells #[.int .i64 x.fr,.int .i64 x.to_] 84)
 obtain⟨x0,x1,x2,x3,x4,x5,x6,x7,x8,x9⟩:=hA.c10
 obtain⟨y0,y1,y2,y3,y4,y5,y6,y7,y8,y9⟩:=(hA.up v).c10
 obtain⟨d0,d1,d2,d3,d4,d5,d6⟩:=(hD.up v).c7
 replace u:=u.trans v;clear v hA hD hsz hsz2;have CS:=qh (fun(wx:World) (v:Up w wx)=>l13Signing_any x.ps x.ts d.wi lo hi lo hi lo2 hi2 wx (h.ps.up v) (h.ts.up v) (h2.wi.up v) hx.tl hx.ps hx.ts hd.wi)
 have HE:=qh (src_1 (d:=d.p) hx)
 have HL:Hid ((sgnS x.ps.l x.ts.l d.wi.l).length≤100000):=qh (sgnS_len hx.ps hx.ts hx.tl hd.wi)
 clear h h2 hx hd;obtain⟨dnm,dda,dwi,dpl,dse,dha,dci⟩:=d
 simp only[]at *;go_enter Tryz.func18,Tryz.ntmps18
 go_wp2_with fail
 generalize (((w.alloc (.cells (vCpX x) 59)).alloc (.cells (vCpD ⟨dnm,dda,dwi,dpl,dse,dha,dci⟩) 81)).alloc (.cells #[.int .i64 x.fr,.int .i64 x.to_] 84))=X at *
 refine(CS.out _ u).mono ?_
 rintro e w4 ⟨v4,rfl,ho,v⟩
 obtain⟨A4,c4,rfl,hc4,hm4,-,-⟩:=own_form ho
 have hr4:=Rd.own spC_len ho
 have hrW:=(Rd.own (l:=[(x.fr,x.to_)]) spC_len hW).up v (Nat.le_refl _)
 clear ho;go_wp2_with fail
 refine(specMeet_any (some ⟨w.heap.size+2,0,none⟩) A4 [(x.fr,x.to_)] _ 1 c4 _ _ _ _ w4 hrW v.size hr4 (Nat.le_refl _) (by simp) HL.out).mono ?_
 rintro e w5 ⟨v5,rfl,ho5,v'⟩
 have HO:=qh (own_base ho5 ((u.trans v).size))
 clear ho5;go_wp2;go_ret;exact⟨v5,rfl,by rw[← HE.out];exact HO.out,(u.trans v).trans v'⟩
theorem l17Source_2y(x:Wd)(d:Dd)(lo hi lo2 hi2:Nat)(w:World)(h:RdW w lo hi x)(_h2:RdE w lo2 hi2 d)(hx:WdF x.p)(hd:DdF x.p d.p)(hk:d.pl.toList≠[]) :
 Calls Tryz.prog 18 #[.agg #[.slice x.rs.A x.rs.l.length x.rs.c,.int .i64 x.fr,.int .i64 x.to_,.slice x.ps.A x.ps.l.length x.ps.c,.slice x.ts.A x.ts.l.length x.ts.c,.slice x.pl.A x.pl.l.length x.pl.c,.slice x.ws.A x.ws.l.length x.ws.c,.slice x.st.A x.st.l.length x.st.c,.slice x.se.A x.se.l.length x.se.c,.slice x.ha.A x.ha.l.length x.ha.c],d.val,.int .i64 2] w fun e w'=>∃v,e=.returned v∧w'.ownsRow w.heap.size 84 2 v (srcS x.p d.p 2).length ((srcS x.p d.p 2).flatMap spC)∧Up w w':=by
 have u:=(Up.alloc w (.cells (vCpX x) 59)).allocs (.cells (vCpD d) 81)
 have hA:=(Bx.new w (vCpX x) 59).up (Up.alloc _ (.cells (vCpD d) 81))
 have hD:=Bx.new (w.alloc (.cells (vCpX x) 59)) (vCpD d) 81
 have hsz:(w.alloc (.cells (vCpX x) 59)).heap.size=w.heap.size+1:=by simp
 rw[hsz]at hD;have hsz2:((w.alloc (.cells (vCpX x) 59)).alloc (.cells (vCpD d) 81)).heap.size=w.heap.size+2:=by simp
 have hW:=World.ownsRow_lit (base:=w.heap.size) (e:=84) (size:=2) ((w.alloc (.cells (vCpX x) 59)).alloc (.cells (vCpD d) 81)) #[.int .i64 x.fr,.int .i64 x.to_] 1 u.size (by simp[maxLen]) rfl
 rw[hsz2]at hW;have v:=Up.alloc ((w.alloc (.cells (vCpX x) 59)).alloc (.cells (vCpD d) 81)) (.cells #[.int .i64 x.fr,.int .i64 x.to_] 84)
 obtain⟨x0,x1,x2,x3,x4,x5,x6,x7,x8,x9⟩:=hA.c10
 obtain⟨y0,y1,y2,y3,y4,y5,y6,y7,y8,y9⟩:=(hA.up v).c10
 obtain⟨d0,d1,d2,d3,d4,d5,d6⟩:=(hD.up v).c7
 replace u:=u.trans v;clear v hA hD hsz hsz2;obtain⟨hp0,hp1⟩:=hd.pl hk
 have hix:txIx x.pl.l d.pl=((plI x.p d.p:Nat):Int):=by unfold txIx plI at *;simp only[]at *;omega
 have CT:=qh (fun(wx:World) (v:Up w wx)=>l01TextB_any x.pl.A x.pl.l x.pl.c lo hi d.pl wx ((h.pl.up v).rd) h.pl.len)
 rw[hix]at CT;have CS:=qh (fun(wx:World) (v:Up w wx)=>l15Days_any x.pl x.ws x.st (plI x.p d.p) lo hi lo hi wx (h.ws.up v) (h.st.up v) hx.pl hp1 hx.ws hx.wl hx.sl hx.st)
 have HE:=qh (src_2 (d:=d.p) hx hk)
 have HL:Hid ((unL (cbL x.ws.l x.pl.l.length x.st.l (plI x.p d.p))).length≤100000):=qh (by have h1:=unL_len (cbL x.ws.l x.pl.l.length x.st.l (plI x.p d.p));have h2:=cbT_len x.ws.l x.pl.l.length x.st.l (plI x.p d.p) (x.st.l.length+1);have h3:=hx.sl;simp only[]at h3;unfold cbL at h1 ⊢;omega)
 obtain⟨pk,hpk⟩:∃z,z=plI x.p d.p:=⟨_,rfl⟩
 have HE2:=qh (show metL [(x.fr,x.to_)] (unL (cbL x.ws.l x.pl.l.length x.st.l pk))=srcS x.p d.p 2 by rw[hpk];exact HE.out)
 rw[← hpk]at CT CS HL;clear hp0 hp1 hix hpk HE;have hke:d.pl.toList.isEmpty=false:=by simp[hk]
 clear h _h2 hx hd hk;obtain⟨dnm,dda,dwi,dpl,dse,dha,dci⟩:=d
 simp only[]at *;go_enter Tryz.func18,Tryz.ntmps18
 go_wp2_with fail
 generalize (((w.alloc (.cells (vCpX x) 59)).alloc (.cells (vCpD ⟨dnm,dda,dwi,dpl,dse,dha,dci⟩) 81)).alloc (.cells #[.int .i64 x.fr,.int .i64 x.to_] 84))=X at *
 go_region_law (first
  |(go_simp;go_at_call 53;with_reducible refine(CT.out _ (by first|exact u|exact u.drew)).mono ?_;rintro e w4 ⟨rfl,v1⟩;have V1:Up X w4:=(by first|exact v1|exact(Up.refl _).drew.trans v1);have z5:=V1.cell y5;have z6:=V1.cell y6;have z7:=V1.cell y7)
  |(go_simp;go_at_call 52;with_reducible refine(CS.out _ (by first|exact u.trans V1|exact(u.trans V1).drew)).mono ?_;rintro e w5 ⟨v5,rfl,ho,v2⟩;have V2:Up X w5:=(by first|exact V1.trans v2|exact V1.drew.trans v2);obtain⟨A4,c4,rfl,hc4,hm4,-,-⟩:=own_form ho)
  |(go_simp;go_at_call 21;refine(specMeet_any (some ⟨w.heap.size+2,0,none⟩) A4 [(x.fr,x.to_)] _ 1 c4 _ _ _ _ w5 ((Rd.own (l:=[(x.fr,x.to_)]) spC_len hW).up V2 (Nat.le_refl _)) V2.size (Rd.own spC_len ho) (Nat.le_refl _) (by simp) HL.out).mono ?_;rintro e w6 ⟨v6,rfl,ho5,v3⟩;have V3:Up X w6:=V2.trans v3))
 all_goals
  have HO:=qh (own_base ho5 ((u.trans V2).size))
  have U:=u.trans V3
  clear ho5 ho v1 v2 v3 V1 V2 V3 z5 z6 z7;go_wp2;go_ret;exact⟨v6,rfl,by rw[← HE2.out];exact HO.out,U⟩
theorem l17Source_2n(x:Wd)(d:Dd)(lo hi lo2 hi2:Nat)(w:World)(_h:RdW w lo hi x)(_h2:RdE w lo2 hi2 d)(hx:WdF x.p)(_hd:DdF x.p d.p)(hk:d.pl.toList=[]) :
 Calls Tryz.prog 18 #[.agg #[.slice x.rs.A x.rs.l.length x.rs.c,.int .i64 x.fr,.int .i64 x.to_,.slice x.ps.A x.ps.l.length x.ps.c,.slice x.ts.A x.ts.l.length x.ts.c,.slice x.pl.A x.pl.l.length x.pl.c,.slice x.ws.A x.ws.l.length x.ws.c,.slice x.st.A x.st.l.length x.st.c,.slice x.se.A x.se.l.length x.se.c,.slice x.ha.A x.ha.l.length x.ha.c],d.val,.int .i64 2] w fun e w'=>∃v,e=.returned v∧w'.ownsRow w.heap.size 84 2 v (srcS x.p d.p 2).length ((srcS x.p d.p 2).flatMap spC)∧Up w w':=by
 have u:=(Up.alloc w (.cells (vCpX x) 59)).allocs (.cells (vCpD d) 81)
 have hA:=(Bx.new w (vCpX x) 59).up (Up.alloc _ (.cells (vCpD d) 81))
 have hD:=Bx.new (w.alloc (.cells (vCpX x) 59)) (vCpD d) 81
 have hsz:(w.alloc (.cells (vCpX x) 59)).heap.size=w.heap.size+1:=by simp
 rw[hsz]at hD;have hsz2:((w.alloc (.cells (vCpX x) 59)).alloc (.cells (vCpD d) 81)).heap.size=w.heap.size+2:=by simp
 have hW:=World.ownsRow_lit (base:=w.heap.size) (e:=84) (size:=2) ((w.alloc (.cells (vCpX x) 59)).alloc (.cells (vCpD d) 81)) #[.int .i64 x.fr,.int .i64 x.to_] 1 u.size (by simp[maxLen]) rfl
 rw[hsz2]at hW;have v:=Up.alloc ((w.alloc (.cells (vCpX x) 59)).alloc (.cells (vCpD d) 81)) (.cells #[.int .i64 x.fr,.int .i64 x.to_] 84)
 obtain⟨x0,x1,x2,x3,x4,x5,x6,x7,x8,x9⟩:=hA.c10
 obtain⟨y0,y1,y2,y3,y4,y5,y6,y7,y8,y9⟩:=(hA.up v).c10
 obtain⟨d0,d1,d2,d3,d4,d5,d6⟩:=(hD.up v).c7
 replace u:=u.trans v;clear v hA hD hsz hsz2;have hke:d.pl.toList.isEmpty=true:=by simp[hk]
 have HE:=qh (src_n (k:=2) (d:=d.p) hx (by simp[hk]))
 clear _h _h2 hx _hd hk;obtain⟨dnm,dda,dwi,dpl,dse,dha,dci⟩:=d
 simp only[]at *;go_enter Tryz.func18,Tryz.ntmps18
 go_wp2_with fail
 generalize (((w.alloc (.cells (vCpX x) 59)).alloc (.cells (vCpD ⟨dnm,dda,dwi,dpl,dse,dha,dci⟩) 81)).alloc (.cells #[.int .i64 x.fr,.int .i64 x.to_] 84))=X at *
 go_wp2;go_ret;exact⟨_,rfl,by rw[← HE.out];exact hW,u⟩
theorem l17Source_3y(x:Wd)(d:Dd)(lo hi lo2 hi2:Nat)(w:World)(h:RdW w lo hi x)(_h2:RdE w lo2 hi2 d)(hx:WdF x.p)(_hd:DdF x.p d.p)(hk:d.se.toList≠[]) :
 Calls Tryz.prog 18 #[.agg #[.slice x.rs.A x.rs.l.length x.rs.c,.int .i64 x.fr,.int .i64 x.to_,.slice x.ps.A x.ps.l.length x.ps.c,.slice x.ts.A x.ts.l.length x.ts.c,.slice x.pl.A x.pl.l.length x.pl.c,.slice x.ws.A x.ws.l.length x.ws.c,.slice x.st.A x.st.l.length x.st.c,.slice x.se.A x.se.l.length x.se.c,.slice x.ha.A x.ha.l.length x.ha.c],d.val,.int .i64 3] w fun e w'=>∃v,e=.returned v∧w'.ownsRow w.heap.size 84 2 v (srcS x.p d.p 3).length ((srcS x.p d.p 3).flatMap spC)∧Up w w':=by
 have u:=(Up.alloc w (.cells (vCpX x) 59)).allocs (.cells (vCpD d) 81)
 have hA:=(Bx.new w (vCpX x) 59).up (Up.alloc _ (.cells (vCpD d) 81))
 have hD:=Bx.new (w.alloc (.cells (vCpX x) 59)) (vCpD d) 81
 have hsz:(w.alloc (.cells (vCpX x) 59)).heap.size=w.heap.size+1:=by simp
 rw[hsz]at hD;have hsz2:((w.alloc (.cells (vCpX x) 59)).alloc (.cells (vCpD d) 81)).heap.size=w.heap.size+2:=by simp
 have hW:=World.ownsRow_lit (base:=w.heap.size) (e:=84) (size:=2) ((w.alloc (.cells (vCpX x) 59)).alloc (.cells (vCpD d) 81)) #[.int .i64 x.fr,.int .i64 x.to_] 1 u.size (by simp[maxLen]) rfl
 rw[hsz2]at hW;have v:=Up.alloc ((w.alloc (.cells (vCpX x) 59)).alloc (.cells (vCpD d) 81)) (.cells #[.int .i64 x.fr,.int .i64 x.to_] 84)
 obtain⟨x0,x1,x2,x3,x4,x5,x6,x7,x8,x9⟩:=hA.c10
 obtain⟨y0,y1,y2,y3,y4,y5,y6,y7,y8,y9⟩:=(hA.up v).c10
 obtain⟨d0,d1,d2,d3,d4,d5,d6⟩:=(hD.up v).c7
 replace u:=u.trans v;clear v hA hD hsz hsz2;have CS:=qh (fun(wx:World) (v:Up w wx)=>l16Days_any x.se d.se lo hi wx (h.se.up v) (by have:=hx.sel;simp only[]at this;omega) hx.se)
 have HE:=qh (src_3 (d:=d.p) hx hk)
 have HL:Hid ((unL (mkL x.se.l d.se)).length≤100000):=qh (by have h1:=unL_len (mkL x.se.l d.se);have h2:(mkL x.se.l d.se).length≤x.se.l.length:=(by unfold mkL;rw[List.length_map];exact List.length_filter_le _ _);have h3:=hx.sel;simp only[]at h3;omega)
 have hke:d.se.toList.isEmpty=false:=by simp[hk]
 clear h _h2 hx _hd hk;obtain⟨dnm,dda,dwi,dpl,dse,dha,dci⟩:=d
 simp only[]at *;go_enter Tryz.func18,Tryz.ntmps18
 go_wp2_with fail
 generalize (((w.alloc (.cells (vCpX x) 59)).alloc (.cells (vCpD ⟨dnm,dda,dwi,dpl,dse,dha,dci⟩) 81)).alloc (.cells #[.int .i64 x.fr,.int .i64 x.to_] 84))=X at *
 refine(CS.out _ u).mono ?_
 rintro e w4 ⟨v4,rfl,ho,v⟩
 obtain⟨A4,c4,rfl,hc4,hm4,-,-⟩:=own_form ho
 have hr4:=Rd.own spC_len ho
 have hrW:=(Rd.own (l:=[(x.fr,x.to_)]) spC_len hW).up v (Nat.le_refl _)
 clear ho;go_wp2_with fail
 refine(specMeet_any (some ⟨w.heap.size+2,0,none⟩) A4 [(x.fr,x.to_)] _ 1 c4 _ _ _ _ w4 hrW v.size hr4 (Nat.le_refl _) (by simp) HL.out).mono ?_
 rintro e w5 ⟨v5,rfl,ho5,v'⟩
 have HO:=qh (own_base ho5 ((u.trans v).size))
 clear ho5;go_wp2;go_ret;exact⟨v5,rfl,by rw[← HE.out];exact HO.out,(u.trans v).trans v'⟩
theorem l17Source_3n(x:Wd)(d:Dd)(lo hi lo2 hi2:Nat)(w:World)(_h:RdW w lo hi x)(_h2:RdE w lo2 hi2 d)(hx:WdF x.p)(_hd:DdF x.p d.p)(hk:d.se.toList=[]) :
 Calls Tryz.prog 18 #[.agg #[.slice x.rs.A x.rs.l.length x.rs.c,.int .i64 x.fr,.int .i64 x.to_,.slice x.ps.A x.ps.l.length x.ps.c,.slice x.ts.A x.ts.l.length x.ts.c,.slice x.pl.A x.pl.l.length x.pl.c,.slice x.ws.A x.ws.l.length x.ws.c,.slice x.st.A x.st.l.length x.st.c,.slice x.se.A x.se.l.length x.se.c,.slice x.ha.A x.ha.l.length x.ha.c],d.val,.int .i64 3] w fun e w'=>∃v,e=.returned v∧w'.ownsRow w.heap.size 84 2 v (srcS x.p d.p 3).length ((srcS x.p d.p 3).flatMap spC)∧Up w w':=by
 have u:=(Up.alloc w (.cells (vCpX x) 59)).allocs (.cells (vCpD d) 81)
 have hA:=(Bx.new w (vCpX x) 59).up (Up.alloc _ (.cells (vCpD d) 81))
 have hD:=Bx.new (w.alloc (.cells (vCpX x) 59)) (vCpD d) 81
 have hsz:(w.alloc (.cells (vCpX x) 59)).heap.size=w.heap.size+1:=by simp
 rw[hsz]at hD;have hsz2:((w.alloc (.cells (vCpX x) 59)).alloc (.cells (vCpD d) 81)).heap.size=w.heap.size+2:=by simp
 have hW:=World.ownsRow_lit (base:=w.heap.size) (e:=84) (size:=2) ((w.alloc (.cells (vCpX x) 59)).alloc (.cells (vCpD d) 81)) #[.int .i64 x.fr,.int .i64 x.to_] 1 u.size (by simp[maxLen]) rfl
 rw[hsz2]at hW;have v:=Up.alloc ((w.alloc (.cells (vCpX x) 59)).alloc (.cells (vCpD d) 81)) (.cells #[.int .i64 x.fr,.int .i64 x.to_] 84)
 obtain⟨x0,x1,x2,x3,x4,x5,x6,x7,x8,x9⟩:=hA.c10
 obtain⟨y0,y1,y2,y3,y4,y5,y6,y7,y8,y9⟩:=(hA.up v).c10
 obtain⟨d0,d1,d2,d3,d4,d5,d6⟩:=(hD.up v).c7
 replace u:=u.trans v;clear v hA hD hsz hsz2;have hke:d.se.toList.isEmpty=true:=by simp[hk]
 have HE:=qh (src_n (k:=3) (d:=d.p) hx (by simp[hk]))
 clear _h _h2 hx _hd hk;obtain⟨dnm,dda,dwi,dpl,dse,dha,dci⟩:=d
 simp only[]at *;go_enter Tryz.func18,Tryz.ntmps18
 go_wp2_with fail
 generalize (((w.alloc (.cells (vCpX x) 59)).alloc (.cells (vCpD ⟨dnm,dda,dwi,dpl,dse,dha,dci⟩) 81)).alloc (.cells #[.int .i64 x.fr,.int .i64 x.to_] 84))=X at *
 go_wp2;go_ret;exact⟨_,rfl,by rw[← HE.out];exact hW,u⟩
theorem l17Source_4y(x:Wd)(d:Dd)(lo hi lo2 hi2:Nat)(w:World)(h:RdW w lo hi x)(_h2:RdE w lo2 hi2 d)(hx:WdF x.p)(_hd:DdF x.p d.p)(hk:d.ha.toList≠[]) :
 Calls Tryz.prog 18 #[.agg #[.slice x.rs.A x.rs.l.length x.rs.c,.int .i64 x.fr,.int .i64 x.to_,.slice x.ps.A x.ps.l.length x.ps.c,.slice x.ts.A x.ts.l.length x.ts.c,.slice x.pl.A x.pl.l.length x.pl.c,.slice x.ws.A x.ws.l.length x.ws.c,.slice x.st.A x.st.l.length x.st.c,.slice x.se.A x.se.l.length x.se.c,.slice x.ha.A x.ha.l.length x.ha.c],d.val,.int .i64 4] w fun e w'=>∃v,e=.returned v∧w'.ownsRow w.heap.size 84 2 v (srcS x.p d.p 4).length ((srcS x.p d.p 4).flatMap spC)∧Up w w':=by
 have u:=(Up.alloc w (.cells (vCpX x) 59)).allocs (.cells (vCpD d) 81)
 have hA:=(Bx.new w (vCpX x) 59).up (Up.alloc _ (.cells (vCpD d) 81))
 have hD:=Bx.new (w.alloc (.cells (vCpX x) 59)) (vCpD d) 81
 have hsz:(w.alloc (.cells (vCpX x) 59)).heap.size=w.heap.size+1:=by simp
 rw[hsz]at hD;have hsz2:((w.alloc (.cells (vCpX x) 59)).alloc (.cells (vCpD d) 81)).heap.size=w.heap.size+2:=by simp
 have hW:=World.ownsRow_lit (base:=w.heap.size) (e:=84) (size:=2) ((w.alloc (.cells (vCpX x) 59)).alloc (.cells (vCpD d) 81)) #[.int .i64 x.fr,.int .i64 x.to_] 1 u.size (by simp[maxLen]) rfl
 rw[hsz2]at hW;have v:=Up.alloc ((w.alloc (.cells (vCpX x) 59)).alloc (.cells (vCpD d) 81)) (.cells #[.int .i64 x.fr,.int .i64 x.to_] 84)
 obtain⟨x0,x1,x2,x3,x4,x5,x6,x7,x8,x9⟩:=hA.c10
 obtain⟨y0,y1,y2,y3,y4,y5,y6,y7,y8,y9⟩:=(hA.up v).c10
 obtain⟨d0,d1,d2,d3,d4,d5,d6⟩:=(hD.up v).c7
 replace u:=u.trans v;clear v hA hD hsz hsz2;have CS:=qh (fun(wx:World) (v:Up w wx)=>l16Days_any x.ha d.ha lo hi wx (h.ha.up v) (by have:=hx.hal;simp only[]at this;omega) hx.ha)
 have HE:=qh (src_4 (d:=d.p) hx hk)
 have HL:Hid ((unL (mkL x.ha.l d.ha)).length≤100000):=qh (by have h1:=unL_len (mkL x.ha.l d.ha);have h2:(mkL x.ha.l d.ha).length≤x.ha.l.length:=(by unfold mkL;rw[List.length_map];exact List.length_filter_le _ _);have h3:=hx.hal;simp only[]at h3;omega)
 have hke:d.ha.toList.isEmpty=false:=by simp[hk]
 clear h _h2 hx _hd hk;obtain⟨dnm,dda,dwi,dpl,dse,dha,dci⟩:=d
 simp only[]at *;go_enter Tryz.func18,Tryz.ntmps18
 go_wp2_with fail
 generalize (((w.alloc (.cells (vCpX x) 59)).alloc (.cells (vCpD ⟨dnm,dda,dwi,dpl,dse,dha,dci⟩) 81)).alloc (.cells #[.int .i64 x.fr,.int .i64 x.to_] 84))=X at *
 refine(CS.out _ u).mono ?_
 rintro e w4 ⟨v4,rfl,ho,v⟩
 obtain⟨A4,c4,rfl,hc4,hm4,-,-⟩:=own_form ho
 have hr4:=Rd.own spC_len ho
 have hrW:=(Rd.own (l:=[(x.fr,x.to_)]) spC_len hW).up v (Nat.le_refl _)
 clear ho;go_wp2_with fail
 refine(specMeet_any (some ⟨w.heap.size+2,0,none⟩) A4 [(x.fr,x.to_)] _ 1 c4 _ _ _ _ w4 hrW v.size hr4 (Nat.le_refl _) (by simp) HL.out).mono ?_
 rintro e w5 ⟨v5,rfl,ho5,v'⟩
 have HO:=qh (own_base ho5 ((u.trans v).size))
 clear ho5;go_wp2;go_ret;exact⟨v5,rfl,by rw[← HE.out];exact HO.out,(u.trans v).trans v'⟩
theorem l17Source_4n(x:Wd)(d:Dd)(lo hi lo2 hi2:Nat)(w:World)(_h:RdW w lo hi x)(_h2:RdE w lo2 hi2 d)(hx:WdF x.p)(_hd:DdF x.p d.p)(hk:d.ha.toList=[]) :
 Calls Tryz.prog 18 #[.agg #[.slice x.rs.A x.rs.l.length x.rs.c,.int .i64 x.fr,.int .i64 x.to_,.slice x.ps.A x.ps.l.length x.ps.c,.slice x.ts.A x.ts.l.length x.ts.c,.slice x.pl.A x.pl.l.length x.pl.c,.slice x.ws.A x.ws.l.length x.ws.c,.slice x.st.A x.st.l.length x.st.c,.slice x.se.A x.se.l.length x.se.c,.slice x.ha.A x.ha.l.length x.ha.c],d.val,.int .i64 4] w fun e w'=>∃v,e=.returned v∧w'.ownsRow w.heap.size 84 2 v (srcS x.p d.p 4).length ((srcS x.p d.p 4).flatMap spC)∧Up w w':=by
 have u:=(Up.alloc w (.cells (vCpX x) 59)).allocs (.cells (vCpD d) 81)
 have hA:=(Bx.new w (vCpX x) 59).up (Up.alloc _ (.cells (vCpD d) 81))
 have hD:=Bx.new (w.alloc (.cells (vCpX x) 59)) (vCpD d) 81
 have hsz:(w.alloc (.cells (vCpX x) 59)).heap.size=w.heap.size+1:=by simp
 rw[hsz]at hD;have hsz2:((w.alloc (.cells (vCpX x) 59)).alloc (.cells (vCpD d) 81)).heap.size=w.heap.size+2:=by simp
 have hW:=World.ownsRow_lit (base:=w.heap.size) (e:=84) (size:=2) ((w.alloc (.cells (vCpX x) 59)).alloc (.cells (vCpD d) 81)) #[.int .i64 x.fr,.int .i64 x.to_] 1 u.size (by simp[maxLen]) rfl
 rw[hsz2]at hW;have v:=Up.alloc ((w.alloc (.cells (vCpX x) 59)).alloc (.cells (vCpD d) 81)) (.cells #[.int .i64 x.fr,.int .i64 x.to_] 84)
 obtain⟨x0,x1,x2,x3,x4,x5,x6,x7,x8,x9⟩:=hA.c10
 obtain⟨y0,y1,y2,y3,y4,y5,y6,y7,y8,y9⟩:=(hA.up v).c10
 obtain⟨d0,d1,d2,d3,d4,d5,d6⟩:=(hD.up v).c7
 replace u:=u.trans v;clear v hA hD hsz hsz2;have hke:d.ha.toList.isEmpty=true:=by simp[hk]
 have HE:=qh (src_n (k:=4) (d:=d.p) hx (by simp[hk]))
 clear _h _h2 hx _hd hk;obtain⟨dnm,dda,dwi,dpl,dse,dha,dci⟩:=d
 simp only[]at *;go_enter Tryz.func18,Tryz.ntmps18
 go_wp2_with fail
 generalize (((w.alloc (.cells (vCpX x) 59)).alloc (.cells (vCpD ⟨dnm,dda,dwi,dpl,dse,dha,dci⟩) 81)).alloc (.cells #[.int .i64 x.fr,.int .i64 x.to_] 84))=X at *
 go_wp2;go_ret;exact⟨_,rfl,by rw[← HE.out];exact hW,u⟩
end Go.Proofs.YtihcmhmanfobcaaGreatDoor
