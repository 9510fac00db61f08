/- The days that a source of a deed allows, the program's. -/
import Derived.Test.YtihcmhmanfobcaaGreatDoorPg
import Derived.Test.YtihcmhmanfobcaaGreatDoorCp
set_option maxHeartbeats 8000000
set_option maxRecDepth 100000
namespace Go.Proofs.YtihcmhmanfobcaaGreatDoor
open Go.RowKit Go.Sort
noncomputable def sgK (x:Pw) (d:Pd) (k:Nat):List Sp:=dset fun n=>inB n x.fr x.to_ && (d.wi.take k).all fun z=>wsgB x.ps x.ts z n
abbrev vPhX(x:Wd):Array Value:=#[.slice x.rs.A x.rs.l.length x.rs.c,.int .i64 x.fr,.int .i64 x.to_,.slice x.ps.A x.ps.l.length x.ps.c,.slice x.ts.A x.ts.l.length x.ts.c,.slice x.pl.A x.pl.l.length x.pl.c,.slice x.ws.A x.ws.l.length x.ws.c,.slice x.st.A x.st.l.length x.st.c,.slice x.se.A x.se.l.length x.se.c,.slice x.ha.A x.ha.l.length x.ha.c]
abbrev vPhD(d:Dd):Array Value:=#[.string d.nm,.slice d.da.A d.da.l.length d.da.c,.slice d.wi.A d.wi.l.length d.wi.c,.string d.pl,.string d.se,.string d.ha,.slice d.ci.A d.ci.l.length d.ci.c]
theorem sgK_0{x:Pw}{d:Pd}(h:WdF x):[(x.fr,x.to_)]=sgK x d 0:=by
 rw[win_set h];exact dset_congr fun n _ _=>by simp
theorem sgK_s{x:Pw}{d:Pd}{k:Nat}{z:Wi}(hd:d.wi[k]?=some z):metL (sgK x d k) (couS x.ps x.ts z)=sgK x d (k+1):=by
 unfold sgK couS
 rw[metL_dset];refine dset_congr fun n _ _=>?_
 rw[List.take_succ_eq_append_getElem (List.getElem?_eq_some_iff.1 hd).1,(List.getElem?_eq_some_iff.1 hd).2,List.all_append];cases inB n x.fr x.to_<;>simp
theorem sgK_end{x:Pw}{d:Pd}:sgK x d d.wi.length=srcS x d 1:=by
 unfold sgK srcS;rw[List.take_of_length_le (Nat.le_refl _)];rfl
theorem sgK_len{x:Pw}{d:Pd}{k:Nat}(h:WdF x):(sgK x d k).length≤10001:=win_len h.le h.win
theorem sourceDays_0(x:Wd)(d:Dd)(lo hi lo2 hi2:Nat)(w:World)(h:RdW w lo hi x)(h2:RdE w lo2 hi2 d)(hx:WdF x.p)(hd:DdF x.p d.p) :
 Calls Tryz.prog 65 #[.agg #[.slice x.rs.A x.rs.l.length x.rs.c,.int .i64 x.fr,.int .i64 x.to_,.slice x.ps.A x.ps.l.length x.ps.c,.slice x.ts.A x.ts.l.length x.ts.c,.slice x.pl.A x.pl.l.length x.pl.c,.slice x.ws.A x.ws.l.length x.ws.c,.slice x.st.A x.st.l.length x.st.c,.slice x.se.A x.se.l.length x.se.c,.slice x.ha.A x.ha.l.length x.ha.c],d.val,.int .i64 0] w fun e w'=>∃v,e=.returned v∧w'.ownsRow w.heap.size 84 2 v (srcS x.p d.p 0).length ((srcS x.p d.p 0).flatMap spC)∧Up w w':=by
 have u:=(Up.alloc w (.cells (vPhX x) 59)).allocs (.cells (vPhD d) 81)
 have hA:=(Bx.new w (vPhX x) 59).up (Up.alloc _ (.cells (vPhD d) 81))
 have hD:=Bx.new (w.alloc (.cells (vPhX x) 59)) (vPhD d) 81
 have hsz:(w.alloc (.cells (vPhX x) 59)).heap.size=w.heap.size+1:=by simp
 rw[hsz]at hD;have hsz2:((w.alloc (.cells (vPhX x) 59)).alloc (.cells (vPhD d) 81)).heap.size=w.heap.size+2:=by simp
 have hW:=World.ownsRow_lit (base:=w.heap.size) (e:=84) (size:=2) ((w.alloc (.cells (vPhX x) 59)).alloc (.cells (vPhD d) 81)) #[.int .i64 x.fr,.int .i64 x.to_] 1 u.size (by simp[maxLen]) rfl
 rw[hsz2]at hW;have v:=Up.alloc ((w.alloc (.cells (vPhX x) 59)).alloc (.cells (vPhD d) 81)) (.cells #[.int .i64 x.fr,.int .i64 x.to_] 84)
 obtain⟨x0,x1,x2,x3,x4,x5,x6,x7,x8,x9⟩:=hA.c10
 obtain⟨y0,y1,y2,y3,y4,y5,y6,y7,y8,y9⟩:=(hA.up v).c10
 obtain⟨d0,d1,d2,d3,d4,d5,d6⟩:=(hD.up v).c7
 replace u:=u.trans v;clear v hA hD hsz hsz2;have CS:=qh (fun(wx:World) (v:Up w wx)=>fittingDays_any x.rs.A d.da.A x.rs.l d.da.l x.rs.c d.da.c lo hi lo2 hi2 x.fr x.to_ wx ((h.rs.up v).rd) (h.rs.up v).hhi h.rs.len hx.rs ((h2.da.up v).rd) (h2.da.up v).hhi (by have:=hd.dl;simp only[]at this;omega) hd.da hx.fr hx.to_ hx.le)
 clear h h2 hx hd;obtain⟨dnm,dda,dwi,dpl,dse,dha,dci⟩:=d
 simp only[]at *;go_enter Tryz.func65,Tryz.ntmps65
 go_wp2_with fail
 generalize (((w.alloc (.cells (vPhX x) 59)).alloc (.cells (vPhD ⟨dnm,dda,dwi,dpl,dse,dha,dci⟩) 81)).alloc (.cells #[.int .i64 x.fr,.int .i64 x.to_] 84))=X at *
 refine(CS.out _ u).mono ?_
 rintro e w4 ⟨v4,rfl,ho,v⟩
 have HO:=qh (own_base ho u.size)
 clear ho;go_wp2;go_ret;exact⟨v4,rfl,HO.out,u.trans v⟩
theorem sourceDays_1(x:Wd)(d:Dd)(lo hi lo2 hi2:Nat)(w:World)(h:RdW w lo hi x)(h2:RdE w lo2 hi2 d)(hx:WdF x.p)(hd:DdF x.p d.p)(hne:∀d∈x.ps.l,d.nm.toList≠[]) :
 Calls Tryz.prog 65 #[.agg #[.slice x.rs.A x.rs.l.length x.rs.c,.int .i64 x.fr,.int .i64 x.to_,.slice x.ps.A x.ps.l.length x.ps.c,.slice x.ts.A x.ts.l.length x.ts.c,.slice x.pl.A x.pl.l.length x.pl.c,.slice x.ws.A x.ws.l.length x.ws.c,.slice x.st.A x.st.l.length x.st.c,.slice x.se.A x.se.l.length x.se.c,.slice x.ha.A x.ha.l.length x.ha.c],d.val,.int .i64 1] w fun e w'=>∃v,e=.returned v∧w'.ownsRow w.heap.size 84 2 v (srcS x.p d.p 1).length ((srcS x.p d.p 1).flatMap spC)∧Up w w':=by
 have u:=(Up.alloc w (.cells (vPhX x) 59)).allocs (.cells (vPhD d) 81)
 have hA:=(Bx.new w (vPhX x) 59).up (Up.alloc _ (.cells (vPhD d) 81))
 have hD:=Bx.new (w.alloc (.cells (vPhX x) 59)) (vPhD d) 81
 have hsz:(w.alloc (.cells (vPhX x) 59)).heap.size=w.heap.size+1:=by simp
 rw[hsz]at hD;have hsz2:((w.alloc (.cells (vPhX x) 59)).alloc (.cells (vPhD d) 81)).heap.size=w.heap.size+2:=by simp
 have hW:=World.ownsRow_lit (base:=w.heap.size) (e:=84) (size:=2) ((w.alloc (.cells (vPhX x) 59)).alloc (.cells (vPhD d) 81)) #[.int .i64 x.fr,.int .i64 x.to_] 1 u.size (by simp[maxLen]) rfl
 rw[hsz2]at hW;have v:=Up.alloc ((w.alloc (.cells (vPhX x) 59)).alloc (.cells (vPhD d) 81)) (.cells #[.int .i64 x.fr,.int .i64 x.to_] 84)
 obtain⟨x0,x1,x2,x3,x4,x5,x6,x7,x8,x9⟩:=hA.c10
 obtain⟨y0,y1,y2,y3,y4,y5,y6,y7,y8,y9⟩:=(hA.up v).c10
 obtain⟨d0,d1,d2,d3,d4,d5,d6⟩:=(hD.up v).c7
 replace hA:=hA.up v;replace hD:=hD.up v;replace u:=u.trans v;clear v hsz hsz2;have hwb:wiB x.ps.l d.wi.l=true:=hd.wi
 simp only[wiB,Bool.and_eq_true,decide_eq_true_eq,List.all_eq_true]at hwb
 have CS:=qh (fun(z:Wi) (hz:z∈d.wi.l) (wx:World) (v:Up w wx)=>witnessDays_any x.ps x.ts z lo hi lo hi wx (h.ps.up v) (h.ts.up v) (by have:=hx.tl;simp only[]at this;omega) hx.ps hx.ts (hwb.2 z hz) hne)
 have HC:=qh (fun(z:Wi) (hz:z∈d.wi.l)=>Nat.le_trans (couS_len (ps:=x.ps.l) (ts:=x.ts.l) (z:=z) hx.ts hx.ps (hwb.2 z hz)) (show x.ts.l.length+1≤100000 by have:=hx.tl;simp only[]at this;omega))
 have HK0:=qh (sgK_0 (d:=d.p) hx)
 have HKS:=qh (fun(k:Nat) (z:Wi) (hz:d.wi.l[k]?=some z)=>sgK_s (x:=x.p) (d:=d.p) (k:=k) (z:=z) hz)
 have HKE:=qh (sgK_end (x:=x.p) (d:=d.p))
 have HKL:=qh (fun k=>sgK_len (d:=d.p) (k:=k) hx)
 have hw12:d.wi.l.length≤2000000:=h2.wi.len
 have HWR:=qh h2.wi
 obtain⟨P,hP⟩:∃P,P=d.p:=⟨_,rfl⟩
 have HWL:Hid (P.wi=d.wi.l):=qh (by rw[hP])
 rw[← hP]at HK0 HKS HKE HKL ⊢
 clear hP hwb hne;clear h h2 hx hd;obtain⟨dnm,dda,dwi,dpl,dse,dha,dci⟩:=d
 simp only[]at *;go_enter Tryz.func65,Tryz.ntmps65
 go_wp2_with fail
 generalize (((w.alloc (.cells (vPhX x) 59)).alloc (.cells (vPhD ⟨dnm,dda,dwi,dpl,dse,dha,dci⟩) 81)).alloc (.cells #[.int .i64 x.fr,.int .i64 x.to_] 84))=X at *
 have hO:∃O,O=sgK x.p P 0∧O=[(x.fr,x.to_)]:=⟨_,rfl,HK0.out.symm⟩
 obtain⟨O0,hO0,hO1⟩:=hO
 have hW0:X.ownsRow w.heap.size 84 2 (.slice (some ⟨w.heap.size+2,0,none⟩) 1 1) O0.length (O0.flatMap spC):=by rw[hO1];exact hW
 clear hW hO1 HK0 x0 x1 x2 x3 x4 x5 x6 x7 x8 x9 y0 y1 y2 y3 y4 y5 y6 y7 y8 y9 d0 d1 d2 d3 d4 d5 d6;obtain⟨WA,wc,wl⟩:=dwi
 simp only[]at *;go_loopw [7,9,10,11,34] (fun o _ _ _ i wr=>∃k:Nat,∃O:List Sp,k≤wl.length∧i=.int .i64 k∧Hid (O=sgK x.p P k)∧wr.ownsRow w.heap.size 84 2 o O.length (O.flatMap spC)∧Up w wr∧Up X wr) (fun _ _ _ _ i _=>wl.length-(intOf i).toNat)
 case atStart=>exact⟨0,O0,Nat.zero_le _,rfl,qh hO0,hW0,u,Up.refl _⟩
 case round =>
  clear hW0 u hO0;obtain⟨k,O,hk,rfl,HO,hown,hup,hui⟩:=hrel
  obtain⟨Ao,co,rfl,hco,hcm,-,-⟩:=own_form hown
  by_cases hlt:k<wl.length
  ·obtain⟨b,off,z,rfl,-,-,hz,q0,q1⟩:=(HWR.out.rd.up hup HWR.out.hhi).wi hlt
   have HZ:=qh hz
   have cS:=CS.out z (List.mem_of_getElem? hz)
   have hcl:=HC.out z (List.mem_of_getElem? hz)
   have hol:O.length≤10001:=by rw[HO.out];exact HKL.out k
   clear hz;have CZ:=qh cS
   clear cS;obtain⟨zp,zo⟩:=z
   simp only[]at *;have v1:=Up.alloc wr (.cells #[.string zp,.string zo] 167)
   have hB:=Bx.new wr #[.string zp,.string zo] 167
   obtain⟨b0,b1⟩:=hB.c2
   obtain⟨y0,y1,y2,y3,y4,y5,y6,y7,y8,y9⟩:=((hA.up hui).up v1).c10
   go_wp2_with fail
   refine(CZ.out _ (hup.trans v1)).mono ?_
   rintro e w4 ⟨v4,rfl,ho,v2⟩
   obtain⟨A4,c4,rfl,hc4,hm4,-,-⟩:=own_form ho
   have hr4:=Rd.own spC_len ho
   have hrO:=Rd.own spC_len (own_up hown (v1.trans v2))
   have hup4:=(hup.trans v1).trans v2
   have hui4:=(hui.trans v1).trans v2
   clear ho v2 v1 hB b0 b1 y0 y1 y2 y3 y4 y5 y6 y7 y8 y9 q0 q1 hup hui hown;go_wp2_with fail
   refine(met_any Ao A4 O _ co c4 _ _ _ _ w4 hrO (Nat.le_refl _) hr4 (Nat.le_refl _) (by omega) hcl).mono ?_
   rintro e w5 ⟨v5,rfl,ho5,v3⟩
   have HO5:=qh (own_base ho5 hup4.size)
   clear ho5;go_wp2;go_roundw
   case rel=>exact⟨k+1,metL O (couS x.ps.l x.ts.l ⟨zp,zo⟩),by omega,by go_num,qh (by rw[HO.out];exact HKS.out k _ HZ.out),HO5.out,hup4.trans v3,hui4.trans v3⟩
   case measure=>simp[intOf];omega
  ·obtain rfl:k=wl.length:=by omega
   have hfin:O=srcS x.p P 1:=by rw[HO.out,← HKE.out,HWL.out]
   clear HO;subst hfin;go_wp2;go_ret;exact⟨_,rfl,hown,hup⟩
theorem sourceDays_2y(x:Wd)(d:Dd)(lo hi lo2 hi2:Nat)(w:World)(h:RdW w lo hi x)(_h2:RdE w lo2 hi2 d)(hx:WdF x.p)(hd:DdF x.p d.p)(hk:d.pl.toList≠[]) :
 Calls Tryz.prog 65 #[.agg #[.slice x.rs.A x.rs.l.length x.rs.c,.int .i64 x.fr,.int .i64 x.to_,.slice x.ps.A x.ps.l.length x.ps.c,.slice x.ts.A x.ts.l.length x.ts.c,.slice x.pl.A x.pl.l.length x.pl.c,.slice x.ws.A x.ws.l.length x.ws.c,.slice x.st.A x.st.l.length x.st.c,.slice x.se.A x.se.l.length x.se.c,.slice x.ha.A x.ha.l.length x.ha.c],d.val,.int .i64 2] w fun e w'=>∃v,e=.returned v∧w'.ownsRow w.heap.size 84 2 v (srcS x.p d.p 2).length ((srcS x.p d.p 2).flatMap spC)∧Up w w':=by
 have u:=(Up.alloc w (.cells (vPhX x) 59)).allocs (.cells (vPhD d) 81)
 have hA:=(Bx.new w (vPhX x) 59).up (Up.alloc _ (.cells (vPhD d) 81))
 have hD:=Bx.new (w.alloc (.cells (vPhX x) 59)) (vPhD d) 81
 have hsz:(w.alloc (.cells (vPhX x) 59)).heap.size=w.heap.size+1:=by simp
 rw[hsz]at hD;have hsz2:((w.alloc (.cells (vPhX x) 59)).alloc (.cells (vPhD d) 81)).heap.size=w.heap.size+2:=by simp
 have hW:=World.ownsRow_lit (base:=w.heap.size) (e:=84) (size:=2) ((w.alloc (.cells (vPhX x) 59)).alloc (.cells (vPhD d) 81)) #[.int .i64 x.fr,.int .i64 x.to_] 1 u.size (by simp[maxLen]) rfl
 rw[hsz2]at hW;have v:=Up.alloc ((w.alloc (.cells (vPhX x) 59)).alloc (.cells (vPhD d) 81)) (.cells #[.int .i64 x.fr,.int .i64 x.to_] 84)
 obtain⟨x0,x1,x2,x3,x4,x5,x6,x7,x8,x9⟩:=hA.c10
 obtain⟨y0,y1,y2,y3,y4,y5,y6,y7,y8,y9⟩:=(hA.up v).c10
 obtain⟨d0,d1,d2,d3,d4,d5,d6⟩:=(hD.up v).c7
 replace u:=u.trans v;clear v hA hD hsz hsz2;obtain⟨hp0,hp1⟩:=hd.pl hk
 have hix:txIx x.pl.l d.pl=((plI x.p d.p:Nat):Int):=by unfold txIx plI at *;simp only[]at *;omega
 have CT:=qh (fun(wx:World) (v:Up w wx)=>txIndex_any x.pl.A x.pl.l x.pl.c lo hi d.pl wx ((h.pl.up v).rd) h.pl.len)
 rw[hix]at CT;have CR:=qh (fun(wx:World) (v:Up w wx)=>travels_any x.pl x.ws lo hi wx (by have h5:=hp1;simp only[]at h5;exact Nat.lt_of_le_of_lt (Nat.zero_le _) h5) hx.pl hx.ws (h.ws.up v))
 have CS:=qh (fun(mv:Value) (wx:World) (v:Up w wx) (hM:MtR wx mv x.pl.l.length (fw x.ws.l x.pl.l.length))=>couldBeDays_any x.pl.l.length x.ws.l x.st mv (plI x.p d.p) lo hi wx hx.pl hp1 hx.ws hM (h.st.up v) hx.sl hx.st)
 have HE:=qh (src_2 (d:=d.p) hx hk)
 have HL:Hid ((unL (cbL x.ws.l x.pl.l.length x.st.l (plI x.p d.p))).length≤100000):=qh (by have h1:=unL_len (cbL x.ws.l x.pl.l.length x.st.l (plI x.p d.p));have h2:=cbT_len x.ws.l x.pl.l.length x.st.l (plI x.p d.p) (x.st.l.length+1);have h3:=hx.sl;simp only[]at h3;unfold cbL at h1 ⊢;omega)
 obtain⟨pk,hpk⟩:∃z,z=plI x.p d.p:=⟨_,rfl⟩
 have HE2:=qh (show metL [(x.fr,x.to_)] (unL (cbL x.ws.l x.pl.l.length x.st.l pk))=srcS x.p d.p 2 by rw[hpk];exact HE.out)
 rw[← hpk]at CT CS HL;clear hp0 hp1 hix hpk HE;have hke:d.pl.toList.isEmpty=false:=by simp[hk]
 clear h _h2 hx hd hk;obtain⟨dnm,dda,dwi,dpl,dse,dha,dci⟩:=d
 simp only[]at *;go_enter Tryz.func65,Tryz.ntmps65
 go_wp2_with fail
 generalize (((w.alloc (.cells (vPhX x) 59)).alloc (.cells (vPhD ⟨dnm,dda,dwi,dpl,dse,dha,dci⟩) 81)).alloc (.cells #[.int .i64 x.fr,.int .i64 x.to_] 84))=X at *
 refine(CT.out _ u).mono ?_
 rintro e w' ⟨rfl,rfl⟩
 go_wp2_with fail
 go_region_law (first
  |(go_simp;go_at_call 119;(with_reducible refine(CR.out _ (by first|exact u|exact u.drew)).mono ?_);rintro e w4 ⟨vM,rfl,hM,v1⟩;have V1:Up X w4:=(by first|exact v1|exact(Up.refl _).drew.trans v1);have z7:=V1.cell y7;have HM:=qh hM;obtain⟨gM,cM,rfl,-⟩:=hM)
  |(go_simp;go_at_call 118;with_reducible refine(CS.out _ _ (by first|exact u.trans V1|exact(u.trans V1).drew) (by first|exact HM.out|exact HM.out.up (Up.refl _).drew)).mono ?_;rintro e w5 ⟨v5,rfl,ho,v2⟩;have V2:Up X w5:=(by first|exact V1.trans v2|exact V1.drew.trans v2);obtain⟨A4,c4,rfl,hc4,hm4,-,-⟩:=own_form ho)
  |(go_simp;go_at_call 67;refine(met_any (some ⟨w.heap.size+2,0,none⟩) A4 [(x.fr,x.to_)] _ 1 c4 _ _ _ _ w5 ((Rd.own (l:=[(x.fr,x.to_)]) spC_len hW).up V2 (Nat.le_refl _)) V2.size (Rd.own spC_len ho) (Nat.le_refl _) (by simp) HL.out).mono ?_;rintro e w6 ⟨v6,rfl,ho5,v3⟩;have V3:Up X w6:=V2.trans v3))
 all_goals
  have HO:=qh (own_base ho5 ((u.trans V2).size))
  have U:=u.trans V3
  clear ho5 ho v1 v2 v3 V1 V2 V3;go_wp2;go_ret;exact⟨v6,rfl,by rw[← HE2.out];exact HO.out,U⟩
theorem sourceDays_2n(x:Wd)(d:Dd)(lo hi lo2 hi2:Nat)(w:World)(_h:RdW w lo hi x)(_h2:RdE w lo2 hi2 d)(hx:WdF x.p)(_hd:DdF x.p d.p)(hk:d.pl.toList=[]) :
 Calls Tryz.prog 65 #[.agg #[.slice x.rs.A x.rs.l.length x.rs.c,.int .i64 x.fr,.int .i64 x.to_,.slice x.ps.A x.ps.l.length x.ps.c,.slice x.ts.A x.ts.l.length x.ts.c,.slice x.pl.A x.pl.l.length x.pl.c,.slice x.ws.A x.ws.l.length x.ws.c,.slice x.st.A x.st.l.length x.st.c,.slice x.se.A x.se.l.length x.se.c,.slice x.ha.A x.ha.l.length x.ha.c],d.val,.int .i64 2] w fun e w'=>∃v,e=.returned v∧w'.ownsRow w.heap.size 84 2 v (srcS x.p d.p 2).length ((srcS x.p d.p 2).flatMap spC)∧Up w w':=by
 have u:=(Up.alloc w (.cells (vPhX x) 59)).allocs (.cells (vPhD d) 81)
 have hA:=(Bx.new w (vPhX x) 59).up (Up.alloc _ (.cells (vPhD d) 81))
 have hD:=Bx.new (w.alloc (.cells (vPhX x) 59)) (vPhD d) 81
 have hsz:(w.alloc (.cells (vPhX x) 59)).heap.size=w.heap.size+1:=by simp
 rw[hsz]at hD;have hsz2:((w.alloc (.cells (vPhX x) 59)).alloc (.cells (vPhD d) 81)).heap.size=w.heap.size+2:=by simp
 have hW:=World.ownsRow_lit (base:=w.heap.size) (e:=84) (size:=2) ((w.alloc (.cells (vPhX x) 59)).alloc (.cells (vPhD d) 81)) #[.int .i64 x.fr,.int .i64 x.to_] 1 u.size (by simp[maxLen]) rfl
 rw[hsz2]at hW;have v:=Up.alloc ((w.alloc (.cells (vPhX x) 59)).alloc (.cells (vPhD d) 81)) (.cells #[.int .i64 x.fr,.int .i64 x.to_] 84)
 obtain⟨x0,x1,x2,x3,x4,x5,x6,x7,x8,x9⟩:=hA.c10
 obtain⟨y0,y1,y2,y3,y4,y5,y6,y7,y8,y9⟩:=(hA.up v).c10
 obtain⟨d0,d1,d2,d3,d4,d5,d6⟩:=(hD.up v).c7
 replace u:=u.trans v;clear v hA hD hsz hsz2;have hke:d.pl.toList.isEmpty=true:=by simp[hk]
 have HE:=qh (src_n (k:=2) (d:=d.p) hx (by simp[hk]))
 clear _h _h2 hx _hd hk;obtain⟨dnm,dda,dwi,dpl,dse,dha,dci⟩:=d
 simp only[]at *;go_enter Tryz.func65,Tryz.ntmps65
 go_wp2_with fail
 generalize (((w.alloc (.cells (vPhX x) 59)).alloc (.cells (vPhD ⟨dnm,dda,dwi,dpl,dse,dha,dci⟩) 81)).alloc (.cells #[.int .i64 x.fr,.int .i64 x.to_] 84))=X at *
 go_wp2;go_ret;exact⟨_,rfl,by rw[← HE.out];exact hW,u⟩
theorem sourceDays_3y(x:Wd)(d:Dd)(lo hi lo2 hi2:Nat)(w:World)(h:RdW w lo hi x)(_h2:RdE w lo2 hi2 d)(hx:WdF x.p)(_hd:DdF x.p d.p)(hk:d.se.toList≠[]) :
 Calls Tryz.prog 65 #[.agg #[.slice x.rs.A x.rs.l.length x.rs.c,.int .i64 x.fr,.int .i64 x.to_,.slice x.ps.A x.ps.l.length x.ps.c,.slice x.ts.A x.ts.l.length x.ts.c,.slice x.pl.A x.pl.l.length x.pl.c,.slice x.ws.A x.ws.l.length x.ws.c,.slice x.st.A x.st.l.length x.st.c,.slice x.se.A x.se.l.length x.se.c,.slice x.ha.A x.ha.l.length x.ha.c],d.val,.int .i64 3] w fun e w'=>∃v,e=.returned v∧w'.ownsRow w.heap.size 84 2 v (srcS x.p d.p 3).length ((srcS x.p d.p 3).flatMap spC)∧Up w w':=by
 have u:=(Up.alloc w (.cells (vPhX x) 59)).allocs (.cells (vPhD d) 81)
 have hA:=(Bx.new w (vPhX x) 59).up (Up.alloc _ (.cells (vPhD d) 81))
 have hD:=Bx.new (w.alloc (.cells (vPhX x) 59)) (vPhD d) 81
 have hsz:(w.alloc (.cells (vPhX x) 59)).heap.size=w.heap.size+1:=by simp
 rw[hsz]at hD;have hsz2:((w.alloc (.cells (vPhX x) 59)).alloc (.cells (vPhD d) 81)).heap.size=w.heap.size+2:=by simp
 have hW:=World.ownsRow_lit (base:=w.heap.size) (e:=84) (size:=2) ((w.alloc (.cells (vPhX x) 59)).alloc (.cells (vPhD d) 81)) #[.int .i64 x.fr,.int .i64 x.to_] 1 u.size (by simp[maxLen]) rfl
 rw[hsz2]at hW;have v:=Up.alloc ((w.alloc (.cells (vPhX x) 59)).alloc (.cells (vPhD d) 81)) (.cells #[.int .i64 x.fr,.int .i64 x.to_] 84)
 obtain⟨x0,x1,x2,x3,x4,x5,x6,x7,x8,x9⟩:=hA.c10
 obtain⟨y0,y1,y2,y3,y4,y5,y6,y7,y8,y9⟩:=(hA.up v).c10
 obtain⟨d0,d1,d2,d3,d4,d5,d6⟩:=(hD.up v).c7
 replace u:=u.trans v;clear v hA hD hsz hsz2;have CS:=qh (fun(wx:World) (v:Up w wx)=>markDays_any x.se d.se lo hi wx (h.se.up v) (by have:=hx.sel;simp only[]at this;omega) hx.se)
 have HE:=qh (src_3 (d:=d.p) hx hk)
 have HL:Hid ((unL (mkL x.se.l d.se)).length≤100000):=qh (by have h1:=unL_len (mkL x.se.l d.se);have h2:(mkL x.se.l d.se).length≤x.se.l.length:=(by unfold mkL;rw[List.length_map];exact List.length_filter_le _ _);have h3:=hx.sel;simp only[]at h3;omega)
 have hke:d.se.toList.isEmpty=false:=by simp[hk]
 clear h _h2 hx _hd hk;obtain⟨dnm,dda,dwi,dpl,dse,dha,dci⟩:=d
 simp only[]at *;go_enter Tryz.func65,Tryz.ntmps65
 go_wp2_with fail
 generalize (((w.alloc (.cells (vPhX x) 59)).alloc (.cells (vPhD ⟨dnm,dda,dwi,dpl,dse,dha,dci⟩) 81)).alloc (.cells #[.int .i64 x.fr,.int .i64 x.to_] 84))=X at *
 refine(CS.out _ u).mono ?_
 rintro e w4 ⟨v4,rfl,ho,v⟩
 obtain⟨A4,c4,rfl,hc4,hm4,-,-⟩:=own_form ho
 have hr4:=Rd.own spC_len ho
 have hrW:=(Rd.own (l:=[(x.fr,x.to_)]) spC_len hW).up v (Nat.le_refl _)
 clear ho;go_wp2_with fail
 refine(met_any (some ⟨w.heap.size+2,0,none⟩) A4 [(x.fr,x.to_)] _ 1 c4 _ _ _ _ w4 hrW v.size hr4 (Nat.le_refl _) (by simp) HL.out).mono ?_
 rintro e w5 ⟨v5,rfl,ho5,v'⟩
 have HO:=qh (own_base ho5 ((u.trans v).size))
 clear ho5;go_wp2;go_ret;exact⟨v5,rfl,by rw[← HE.out];exact HO.out,(u.trans v).trans v'⟩
theorem sourceDays_3n(x:Wd)(d:Dd)(lo hi lo2 hi2:Nat)(w:World)(_h:RdW w lo hi x)(_h2:RdE w lo2 hi2 d)(hx:WdF x.p)(_hd:DdF x.p d.p)(hk:d.se.toList=[]) :
 Calls Tryz.prog 65 #[.agg #[.slice x.rs.A x.rs.l.length x.rs.c,.int .i64 x.fr,.int .i64 x.to_,.slice x.ps.A x.ps.l.length x.ps.c,.slice x.ts.A x.ts.l.length x.ts.c,.slice x.pl.A x.pl.l.length x.pl.c,.slice x.ws.A x.ws.l.length x.ws.c,.slice x.st.A x.st.l.length x.st.c,.slice x.se.A x.se.l.length x.se.c,.slice x.ha.A x.ha.l.length x.ha.c],d.val,.int .i64 3] w fun e w'=>∃v,e=.returned v∧w'.ownsRow w.heap.size 84 2 v (srcS x.p d.p 3).length ((srcS x.p d.p 3).flatMap spC)∧Up w w':=by
 have u:=(Up.alloc w (.cells (vPhX x) 59)).allocs (.cells (vPhD d) 81)
 have hA:=(Bx.new w (vPhX x) 59).up (Up.alloc _ (.cells (vPhD d) 81))
 have hD:=Bx.new (w.alloc (.cells (vPhX x) 59)) (vPhD d) 81
 have hsz:(w.alloc (.cells (vPhX x) 59)).heap.size=w.heap.size+1:=by simp
 rw[hsz]at hD;have hsz2:((w.alloc (.cells (vPhX x) 59)).alloc (.cells (vPhD d) 81)).heap.size=w.heap.size+2:=by simp
 have hW:=World.ownsRow_lit (base:=w.heap.size) (e:=84) (size:=2) ((w.alloc (.cells (vPhX x) 59)).alloc (.cells (vPhD d) 81)) #[.int .i64 x.fr,.int .i64 x.to_] 1 u.size (by simp[maxLen]) rfl
 rw[hsz2]at hW;have v:=Up.alloc ((w.alloc (.cells (vPhX x) 59)).alloc (.cells (vPhD d) 81)) (.cells #[.int .i64 x.fr,.int .i64 x.to_] 84)
 obtain⟨x0,x1,x2,x3,x4,x5,x6,x7,x8,x9⟩:=hA.c10
 obtain⟨y0,y1,y2,y3,y4,y5,y6,y7,y8,y9⟩:=(hA.up v).c10
 obtain⟨d0,d1,d2,d3,d4,d5,d6⟩:=(hD.up v).c7
 replace u:=u.trans v;clear v hA hD hsz hsz2;have hke:d.se.toList.isEmpty=true:=by simp[hk]
 have HE:=qh (src_n (k:=3) (d:=d.p) hx (by simp[hk]))
 clear _h _h2 hx _hd hk;obtain⟨dnm,dda,dwi,dpl,dse,dha,dci⟩:=d
 simp only[]at *;go_enter Tryz.func65,Tryz.ntmps65
 go_wp2_with fail
 generalize (((w.alloc (.cells (vPhX x) 59)).alloc (.cells (vPhD ⟨dnm,dda,dwi,dpl,dse,dha,dci⟩) 81)).alloc (.cells #[.int .i64 x.fr,.int .i64 x.to_] 84))=X at *
 go_wp2;go_ret;exact⟨_,rfl,by rw[← HE.out];exact hW,u⟩
theorem sourceDays_4y(x:Wd)(d:Dd)(lo hi lo2 hi2:Nat)(w:World)(h:RdW w lo hi x)(_h2:RdE w lo2 hi2 d)(hx:WdF x.p)(_hd:DdF x.p d.p)(hk:d.ha.toList≠[]) :
 Calls Tryz.prog 65 #[.agg #[.slice x.rs.A x.rs.l.length x.rs.c,.int .i64 x.fr,.int .i64 x.to_,.slice x.ps.A x.ps.l.length x.ps.c,.slice x.ts.A x.ts.l.length x.ts.c,.slice x.pl.A x.pl.l.length x.pl.c,.slice x.ws.A x.ws.l.length x.ws.c,.slice x.st.A x.st.l.length x.st.c,.slice x.se.A x.se.l.length x.se.c,.slice x.ha.A x.ha.l.length x.ha.c],d.val,.int .i64 4] w fun e w'=>∃v,e=.returned v∧w'.ownsRow w.heap.size 84 2 v (srcS x.p d.p 4).length ((srcS x.p d.p 4).flatMap spC)∧Up w w':=by
 have u:=(Up.alloc w (.cells (vPhX x) 59)).allocs (.cells (vPhD d) 81)
 have hA:=(Bx.new w (vPhX x) 59).up (Up.alloc _ (.cells (vPhD d) 81))
 have hD:=Bx.new (w.alloc (.cells (vPhX x) 59)) (vPhD d) 81
 have hsz:(w.alloc (.cells (vPhX x) 59)).heap.size=w.heap.size+1:=by simp
 rw[hsz]at hD;have hsz2:((w.alloc (.cells (vPhX x) 59)).alloc (.cells (vPhD d) 81)).heap.size=w.heap.size+2:=by simp
 have hW:=World.ownsRow_lit (base:=w.heap.size) (e:=84) (size:=2) ((w.alloc (.cells (vPhX x) 59)).alloc (.cells (vPhD d) 81)) #[.int .i64 x.fr,.int .i64 x.to_] 1 u.size (by simp[maxLen]) rfl
 rw[hsz2]at hW;have v:=Up.alloc ((w.alloc (.cells (vPhX x) 59)).alloc (.cells (vPhD d) 81)) (.cells #[.int .i64 x.fr,.int .i64 x.to_] 84)
 obtain⟨x0,x1,x2,x3,x4,x5,x6,x7,x8,x9⟩:=hA.c10
 obtain⟨y0,y1,y2,y3,y4,y5,y6,y7,y8,y9⟩:=(hA.up v).c10
 obtain⟨d0,d1,d2,d3,d4,d5,d6⟩:=(hD.up v).c7
 replace u:=u.trans v;clear v hA hD hsz hsz2;have CS:=qh (fun(wx:World) (v:Up w wx)=>markDays_any x.ha d.ha lo hi wx (h.ha.up v) (by have:=hx.hal;simp only[]at this;omega) hx.ha)
 have HE:=qh (src_4 (d:=d.p) hx hk)
 have HL:Hid ((unL (mkL x.ha.l d.ha)).length≤100000):=qh (by have h1:=unL_len (mkL x.ha.l d.ha);have h2:(mkL x.ha.l d.ha).length≤x.ha.l.length:=(by unfold mkL;rw[List.length_map];exact List.length_filter_le _ _);have h3:=hx.hal;simp only[]at h3;omega)
 have hke:d.ha.toList.isEmpty=false:=by simp[hk]
 clear h _h2 hx _hd hk;obtain⟨dnm,dda,dwi,dpl,dse,dha,dci⟩:=d
 simp only[]at *;go_enter Tryz.func65,Tryz.ntmps65
 go_wp2_with fail
 generalize (((w.alloc (.cells (vPhX x) 59)).alloc (.cells (vPhD ⟨dnm,dda,dwi,dpl,dse,dha,dci⟩) 81)).alloc (.cells #[.int .i64 x.fr,.int .i64 x.to_] 84))=X at *
 refine(CS.out _ u).mono ?_
 rintro e w4 ⟨v4,rfl,ho,v⟩
 obtain⟨A4,c4,rfl,hc4,hm4,-,-⟩:=own_form ho
 have hr4:=Rd.own spC_len ho
 have hrW:=(Rd.own (l:=[(x.fr,x.to_)]) spC_len hW).up v (Nat.le_refl _)
 clear ho;go_wp2_with fail
 refine(met_any (some ⟨w.heap.size+2,0,none⟩) A4 [(x.fr,x.to_)] _ 1 c4 _ _ _ _ w4 hrW v.size hr4 (Nat.le_refl _) (by simp) HL.out).mono ?_
 rintro e w5 ⟨v5,rfl,ho5,v'⟩
 have HO:=qh (own_base ho5 ((u.trans v).size))
 clear ho5;go_wp2;go_ret;exact⟨v5,rfl,by rw[← HE.out];exact HO.out,(u.trans v).trans v'⟩
theorem sourceDays_4n(x:Wd)(d:Dd)(lo hi lo2 hi2:Nat)(w:World)(_h:RdW w lo hi x)(_h2:RdE w lo2 hi2 d)(hx:WdF x.p)(_hd:DdF x.p d.p)(hk:d.ha.toList=[]) :
 Calls Tryz.prog 65 #[.agg #[.slice x.rs.A x.rs.l.length x.rs.c,.int .i64 x.fr,.int .i64 x.to_,.slice x.ps.A x.ps.l.length x.ps.c,.slice x.ts.A x.ts.l.length x.ts.c,.slice x.pl.A x.pl.l.length x.pl.c,.slice x.ws.A x.ws.l.length x.ws.c,.slice x.st.A x.st.l.length x.st.c,.slice x.se.A x.se.l.length x.se.c,.slice x.ha.A x.ha.l.length x.ha.c],d.val,.int .i64 4] w fun e w'=>∃v,e=.returned v∧w'.ownsRow w.heap.size 84 2 v (srcS x.p d.p 4).length ((srcS x.p d.p 4).flatMap spC)∧Up w w':=by
 have u:=(Up.alloc w (.cells (vPhX x) 59)).allocs (.cells (vPhD d) 81)
 have hA:=(Bx.new w (vPhX x) 59).up (Up.alloc _ (.cells (vPhD d) 81))
 have hD:=Bx.new (w.alloc (.cells (vPhX x) 59)) (vPhD d) 81
 have hsz:(w.alloc (.cells (vPhX x) 59)).heap.size=w.heap.size+1:=by simp
 rw[hsz]at hD;have hsz2:((w.alloc (.cells (vPhX x) 59)).alloc (.cells (vPhD d) 81)).heap.size=w.heap.size+2:=by simp
 have hW:=World.ownsRow_lit (base:=w.heap.size) (e:=84) (size:=2) ((w.alloc (.cells (vPhX x) 59)).alloc (.cells (vPhD d) 81)) #[.int .i64 x.fr,.int .i64 x.to_] 1 u.size (by simp[maxLen]) rfl
 rw[hsz2]at hW;have v:=Up.alloc ((w.alloc (.cells (vPhX x) 59)).alloc (.cells (vPhD d) 81)) (.cells #[.int .i64 x.fr,.int .i64 x.to_] 84)
 obtain⟨x0,x1,x2,x3,x4,x5,x6,x7,x8,x9⟩:=hA.c10
 obtain⟨y0,y1,y2,y3,y4,y5,y6,y7,y8,y9⟩:=(hA.up v).c10
 obtain⟨d0,d1,d2,d3,d4,d5,d6⟩:=(hD.up v).c7
 replace u:=u.trans v;clear v hA hD hsz hsz2;have hke:d.ha.toList.isEmpty=true:=by simp[hk]
 have HE:=qh (src_n (k:=4) (d:=d.p) hx (by simp[hk]))
 clear _h _h2 hx _hd hk;obtain⟨dnm,dda,dwi,dpl,dse,dha,dci⟩:=d
 simp only[]at *;go_enter Tryz.func65,Tryz.ntmps65
 go_wp2_with fail
 generalize (((w.alloc (.cells (vPhX x) 59)).alloc (.cells (vPhD ⟨dnm,dda,dwi,dpl,dse,dha,dci⟩) 81)).alloc (.cells #[.int .i64 x.fr,.int .i64 x.to_] 84))=X at *
 go_wp2;go_ret;exact⟨_,rfl,by rw[← HE.out];exact hW,u⟩
theorem sourceDays_any(x:Wd)(d:Dd)(k lo hi lo2 hi2:Nat)(w:World)(h:RdW w lo hi x)(h2:RdE w lo2 hi2 d)(hx:WdF x.p)(hd:DdF x.p d.p)(hne:∀d∈x.ps.l,d.nm.toList≠[])(hk:k≤4) :
 Calls Tryz.prog 65 #[.agg #[.slice x.rs.A x.rs.l.length x.rs.c,.int .i64 x.fr,.int .i64 x.to_,.slice x.ps.A x.ps.l.length x.ps.c,.slice x.ts.A x.ts.l.length x.ts.c,.slice x.pl.A x.pl.l.length x.pl.c,.slice x.ws.A x.ws.l.length x.ws.c,.slice x.st.A x.st.l.length x.st.c,.slice x.se.A x.se.l.length x.se.c,.slice x.ha.A x.ha.l.length x.ha.c],d.val,.int .i64 k] w fun e w'=>∃v,e=.returned v∧w'.ownsRow w.heap.size 84 2 v (srcS x.p d.p k).length ((srcS x.p d.p k).flatMap spC)∧Up w w':=by
 rcases k with _|_|_|_|_|k
 ·exact sourceDays_0 x d lo hi lo2 hi2 w h h2 hx hd
 ·exact sourceDays_1 x d lo hi lo2 hi2 w h h2 hx hd hne
 ·by_cases hp:d.pl.toList=[]
  ·exact sourceDays_2n x d lo hi lo2 hi2 w h h2 hx hd hp
  ·exact sourceDays_2y x d lo hi lo2 hi2 w h h2 hx hd hp
 ·by_cases hp:d.se.toList=[]
  ·exact sourceDays_3n x d lo hi lo2 hi2 w h h2 hx hd hp
  ·exact sourceDays_3y x d lo hi lo2 hi2 w h h2 hx hd hp
 ·by_cases hp:d.ha.toList=[]
  ·exact sourceDays_4n x d lo hi lo2 hi2 w h h2 hx hd hp
  ·exact sourceDays_4y x d lo hi lo2 hi2 w h h2 hx hd hp
 ·omega
end Go.Proofs.YtihcmhmanfobcaaGreatDoor
