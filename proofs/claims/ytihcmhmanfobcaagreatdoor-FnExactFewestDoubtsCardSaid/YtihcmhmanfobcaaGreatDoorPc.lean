/- The calendar, the program's: numbers of dates, dates of numbers. -/
import Derived.Test.YtihcmhmanfobcaaGreatDoorCb
import Derived.Test.YtihcmhmanfobcaaGreatDoorCc
set_option maxHeartbeats 4000000
set_option maxRecDepth 100000
namespace Go.Proofs.YtihcmhmanfobcaaGreatDoor
open Go.RowKit Go.Sort
theorem ny_bd{y:Int}(h:1≤y)(h2:y≤2002):0≤ny y∧ny y≤731000:=by unfold ny;omega
theorem newYear_any(y:Int)(w:World)(h:1≤y)(h2:y≤2002):Calls Tryz.prog 249 #[.int .i64 y,.bool false] w fun e w'=>e=.returned (.int .i64 (ny y))∧w=w':=by
 go_enter Tryz.func249,Tryz.ntmps249
 go_wp2;go_ret;exact⟨rfl,rfl⟩
theorem num_end2{y m d:Int}{j:Nat}(h:(j:Int)+1=m):ny y+d-1+cum y j=num y m d:=num_end h
theorem dayOf_any(y m d:Int)(w:World)(hy:1≤y)(hy2:y≤2001)(hm:1≤m)(hm2:m≤12)(hd:1≤d)(hd2:d≤31) :
 Calls Tryz.prog 256 #[.agg #[.int .i64 y,.int .i64 m,.int .i64 d],.bool false] w fun e w'=>e=.returned (.int .i64 (num y m d))∧Up w w':=by
 have u:=Up.alloc w (.cells #[.int .i64 y,.int .i64 m,.int .i64 d] 265)
 have hB:=Bx.new w #[.int .i64 y,.int .i64 m,.int .i64 d] 265
 have hE:=fun(j:Nat) (h:(j:Int)+1=m)=>num_end2 (y:=y) (d:=d) h
 have bN:=ny_bd hy (show y≤2002 by omega)
 have cA:=fun wx=>newYear_any y wx hy (by omega)
 obtain⟨N,hN⟩:∃z,z=ny y:=⟨_,rfl⟩
 simp only[← hN]at cA hE bN
 clear hN;have HE:=qh hE
 have CA:=qh cA
 clear hE cA;go_enter Tryz.func256,Tryz.ntmps256
 go_wp2_with fail
 generalize w.alloc (.cells #[.int .i64 y,.int .i64 m,.int .i64 d] 265)=W1 at *
 obtain⟨y0,y1,y2⟩:=hB.c3
 have Y0:=cell_regrown y0
 have Y2:=cell_regrown y2
 have cN:∀dd os,Calls Tryz.prog 249 #[.int .i64 y,.bool false] (grow (redrawn W1 dd) os) fun e w''=>e=.returned (.int .i64 N)∧∃p:Regrown,w''=grow (redrawn W1 p.d) p.os:=fun dd os=>Calls.regrown_of ((CA.out _).mono fun e w' ⟨h,h2⟩=>⟨h,by rw[← h2];exact Up.refl _⟩)
 refine wp_region_quiet_below (by kernel_rfl) (by kernel_rfl) ?_
 repeat (first|go_big_quiet_step ((go_at_call 249;exact cN _ _))|quiet_step ((go_at_call 249;exact cN _ _)))
 refine wpQuiet_nil ?_
 intro w2 hw2
 obtain⟨⟨dq,osq⟩,hw2⟩:=hw2
 have v:Up W1 w2:=by rw[hw2];exact below_regrown _ _ _
 replace hB:=hB.up v;replace u:=u.trans v;clear hw2 Y0 Y2 cN v y0 y1 y2;obtain⟨y0,y1,y2⟩:=hB.c3
 go_wp2_with fail
 go_loop [5,6] (fun n k=>∃j:Nat,(j:Int)+1≤m∧k=.int .i64 (j+1)∧n=.int .i64 (N+d-1+cum y j)) (fun _ k=>(m-intOf k).toNat)
 case atStart=>exact⟨0,by omega,rfl,by simp[cum]⟩
 case round =>
  obtain⟨j,hj,rfl,rfl⟩:=hrel
  have hc:=cum_bd y j (by omega)
  have hl:=ml_bd y (j+1)
  by_cases hlt:(j:Int)+1<m
  ·have HS:=qh (cum_s y j)
   go_wp2_with (go_at_call 250;refine(lengthOfMonth_any _ _ _).mono ?_;rintro e w' ⟨rfl,rfl⟩)
   go_round
   case rel=>exact⟨j+1,by omega,by go_num,by rw[HS.out];go_num⟩
   case measure=>simp[intOf];omega
  ·have HF:=qh (HE.out j (by omega))
   go_wp2;go_ret;exact⟨ret_int HF.out,u⟩
theorem search_any(r:Nat)(f:FuncId)(caps:Array Value)(w:World)(hr:r≤2000)(he:∀(args:Array Value) (w:World),(callFunc f args).run Tryz.prog w=.ok (.enter f args) w)
 (hf:∀(k:Nat),k<2000→∀w1,Up w w1→Calls Tryz.prog f (#[.int .i64 (k:Int)]++caps) w1 fun e w2=>e=.returned (.bool (decide (r≤k)))∧Up w1 w2) :
 Calls Tryz.prog 247 #[.int .i64 2000,.func (.func f) #[] caps] w fun e w'=>e=.returned (.int .i64 r)∧Up w w':=by
 have hent:∀(args:Array Value) (w:World),(callFunc f args).run Tryz.prog w=.ok (.enter f args) w:=he
 have HF:=qh hf
 clear hf he;go_enter Tryz.func247,Tryz.ntmps247
 go_wp2_with fail
 go_loopw [5,6,7] (fun i j h wr=>∃a b:Nat,a≤r∧r≤b∧b≤2000∧i=.int .i64 a∧j=.int .i64 b∧Up w wr) (fun i j _ _=>(intOf j-intOf i).toNat)
 case atStart=>exact⟨0,2000,by omega,hr,by omega,rfl,rfl,Up.refl _⟩
 case round =>
  obtain⟨a,b,h1,h2,h3,rfl,rfl,hup⟩:=hrel
  by_cases hlt:a<b
  ·have hlt':(a:Int)<(b:Int):=by omega
   obtain⟨h,hh⟩:∃h:Nat,h=(a+b)/2:=⟨_,rfl⟩
   go_wp2_with fail
   rw[show((a:Int)+(b:Int))/2=(h:Int) by omega]
   refine(HF.out h (by omega) wr hup).mono ?_
   rintro e w2 ⟨rfl,v⟩
   clear hlt';by_cases hc:r≤h
   ·rw[decide_eq_true hc]
    go_wp2;go_roundw
    case rel=>exact⟨a,h,h1,hc,by omega,rfl,by rw[show((a:Int)+(b:Int))/2=(h:Int) by omega],hup.trans v⟩
    case measure=>simp[intOf];omega
   ·rw[decide_eq_false hc]
    go_wp2;go_roundw
    case rel=>exact⟨h+1,b,by omega,h2,h3,by rw[show((a:Int)+(b:Int))/2=(h:Int) by omega];go_num,rfl,hup.trans v⟩
    case measure=>simp[intOf];omega
  ·have hlt':¬ (a:Int)<(b:Int):=by omega
   have HE:=qh (show(a:Int)=r by omega)
   go_wp2;go_ret;exact⟨ret_int HE.out,hup⟩
theorem yo_nat{n:Int}(h:0≤n)(h2:n≤730499):∃r:Nat,yOf n=r+1∧r≤1999 :=
 ⟨(yOf n-1).toNat,by have:=yOf_bd h h2;omega,by have:=yOf_bd h h2;omega⟩
theorem srch_ok{n:Int}{r k:Nat}(h:yOf n=r+1):decide (n<ny ((k:Int)+2))=decide (r≤k):=by
 obtain⟨a,b⟩:=yOf_ny n
 rw[h]at a b;rw[Bool.eq_iff_iff,decide_eq_true_iff,decide_eq_true_iff];constructor
 ·intro hn
  rcases Nat.lt_or_ge k r with h1|h1
  ·have:=ny_mono (show(k:Int)+2≤(r:Int)+1 by omega);omega
  ·exact h1
 ·intro hn
  have:=ny_mono (show(r:Int)+1+1≤(k:Int)+2 by omega);omega
theorem dateOf1_any(n:Int)(r k bi bn:Nat)(w:World)(h:yOf n=r+1)(hk:k<2000)(c1:w.cell? ⟨bi,0,none⟩=some (.bool false))(c2:w.cell? ⟨bn,0,none⟩=some (.int .i64 n)) :
 Calls Tryz.prog 248 #[.int .i64 (k:Int),.pointer (some ⟨bi,0,none⟩),.pointer (some ⟨bn,0,none⟩)] w fun e w'=>e=.returned (.bool (decide (r≤k)))∧Up w w':=by
 have HE:=qh (srch_ok (k:=k) h)
 have cA:=fun wx=>newYear_any ((k:Int)+2) wx (by omega) (by omega)
 obtain⟨N,hN⟩:∃z,z=ny ((k:Int)+2):=⟨_,rfl⟩
 rw[← hN]at HE;simp only[← hN]at cA
 have CA:=qh cA
 clear hN h cA;have C1:=cell_regrown c1
 have C2:=cell_regrown c2
 have cN:∀dd os,Calls Tryz.prog 249 #[.int .i64 ((k:Int)+2),.bool false] (grow (redrawn w dd) os) fun e w''=>e=.returned (.int .i64 N)∧∃p:Regrown,w''=grow (redrawn w p.d) p.os:=fun dd os=>Calls.regrown_of ((CA.out _).mono fun e w' ⟨h,h2⟩=>⟨h,by rw[← h2];exact Up.refl _⟩)
 go_enter Tryz.func248,Tryz.ntmps248
 go_wp2_with fail
 refine wp_region_quiet_below (by kernel_rfl) (by kernel_rfl) ?_
 repeat (first|go_big_quiet_step ((go_at_call 249;exact cN _ _))|quiet_step ((go_at_call 249;exact cN _ _)))
 refine wpQuiet_nil ?_
 intro w2 hw2
 obtain⟨⟨dq,osq⟩,hw2⟩:=hw2
 have v:Up w w2:=by rw[hw2];exact below_regrown _ _ _
 clear hw2 C1 C2 cN;go_wp2;go_ret;exact⟨ret_bool HE.out,v⟩
theorem dateOf_any(n:Int)(w:World)(h0:0≤n)(h1:n≤730499) :
 Calls Tryz.prog 208 #[.int .i64 n,.bool false] w fun e w'=>e=.returned (.agg #[.int .i64 (yOf n),.int .i64 (dM n),.int .i64 (dD n)])∧Up w w':=by
 obtain⟨r,hr,hr2⟩:=yo_nat h0 h1
 have CF:=qh (fun(k bi bn:Nat) (wx:World) (hk:k<2000) c1 c2=>dateOf1_any n r k bi bn wx hr hk c1 c2)
 have hd:=qh (date_bd n)
 obtain⟨q,hq⟩:∃q:Nat,dM n=q+1:=⟨mOf (yOf n) (n-ny (yOf n)),rfl⟩
 have q1:q≤11:=by have:=hd.out.2.1;omega
 have HD:=qh (show n-ny (r+1)-cum (r+1) q+1=dD n∧0≤n-ny (r+1)-cum (r+1) q∧n-ny (r+1)-cum (r+1) q<ml (r+1) (q+1) by
  have h:=hd.out
  rw[hr,hq]at h;have e:=h.2.2.2.2
  unfold num at e
  rw[show((q:Int)+1-1).toNat=q by omega]at e
  omega)
 have HY:=qh hr
 have HM:=qh hq
 have bY:=ny_bd (y:=(r:Int)+1) (by omega) (by omega)
 have cA:=fun wx=>newYear_any ((r:Int)+1) wx (by omega) (by omega)
 have bH:=qh (show 0≤n-ny ((r:Int)+1)∧n-ny ((r:Int)+1)≤366 by
  have:=yOf_ny n;rw[hr]at this;have h2:=ny_next ((r:Int)+1);split at h2<;>omega)
 obtain⟨N,hN⟩:∃z,z=ny ((r:Int)+1):=⟨_,rfl⟩
 rw[← hN]at HD bY bH;simp only[← hN]at cA
 have CA:=qh cA
 clear hN cA hr hq;have u:Up w (((w.alloc (.cells #[.int .i64 n] 2)).alloc (.cells #[.bool false] 4)).alloc (.cells #[.int .i64 0,.int .i64 0,.int .i64 0] 265)):=((Up.alloc w _).allocs _).allocs _
 have hN:Bx (((w.alloc (.cells #[.int .i64 n] 2)).alloc (.cells #[.bool false] 4)).alloc (.cells #[.int .i64 0,.int .i64 0,.int .i64 0] 265)) w.heap.size [.int .i64 n]:=((Bx.new w #[.int .i64 n] 2).up (Up.alloc _ _)).up (Up.alloc _ _)
 have hI:Bx (((w.alloc (.cells #[.int .i64 n] 2)).alloc (.cells #[.bool false] 4)).alloc (.cells #[.int .i64 0,.int .i64 0,.int .i64 0] 265)) (w.heap.size+1) [.bool false]:=by
  have:=(Bx.new (w.alloc (.cells #[.int .i64 n] 2)) #[.bool false] 4).up (Up.alloc _ (.cells #[.int .i64 0,.int .i64 0,.int .i64 0] 265))
  simpa using this
 have hR:Bx (((w.alloc (.cells #[.int .i64 n] 2)).alloc (.cells #[.bool false] 4)).alloc (.cells #[.int .i64 0,.int .i64 0,.int .i64 0] 265)) (w.heap.size+1+1) [.int .i64 0,.int .i64 0,.int .i64 0]:=by
  have:=Bx.new ((w.alloc (.cells #[.int .i64 n] 2)).alloc (.cells #[.bool false] 4)) #[.int .i64 0,.int .i64 0,.int .i64 0] 265
  simpa using this
 go_enter Tryz.func208,Tryz.ntmps208
 go_wp2_with fail
 generalize ((w.alloc (.cells #[.int .i64 n] 2)).alloc (.cells #[.bool false] 4)).alloc (.cells #[.int .i64 0,.int .i64 0,.int .i64 0] 265)=W1 at *
 refine(search_any r 248 #[.pointer (some ⟨w.heap.size+1,0,none⟩),.pointer (some ⟨w.heap.size,0,none⟩)] W1 (by omega) (fun _ _=>by kernel_rfl) (fun k hk w1 v=>CF.out k _ _ w1 hk ((hI.up v) 0 _ rfl).1 ((hN.up v) 0 _ rfl).1)).mono ?_
 rintro e w1 ⟨rfl,v⟩
 replace u:=u.trans v;replace hN:=(hN.up v).up (Up.alloc _ (.cells #[.int .i64 ((r:Int)+1),.int .i64 1,.int .i64 0] 265))
 replace hI:=(hI.up v).up (Up.alloc _ (.cells #[.int .i64 ((r:Int)+1),.int .i64 1,.int .i64 0] 265))
 have hlt:w.heap.size+1+1<w1.heap.size:=Nat.lt_of_lt_of_le hR.lt v.size
 replace hR:=(hR.up v).up (Up.alloc _ (.cells #[.int .i64 ((r:Int)+1),.int .i64 1,.int .i64 0] 265))
 have hD:=Bx.new w1 #[.int .i64 ((r:Int)+1),.int .i64 1,.int .i64 0] 265
 replace u:=u.trans (Up.alloc _ (.cells #[.int .i64 ((r:Int)+1),.int .i64 1,.int .i64 0] 265))
 obtain⟨bd,hbd⟩:∃z,z=w1.heap.size:=⟨_,rfl⟩
 go_upto_region 3 with fail
 rw[← hbd]at hD hlt ⊢
 generalize w1.alloc (.cells #[.int .i64 ((r:Int)+1),.int .i64 1,.int .i64 0] 265)=W2 at *
 clear v hbd;obtain⟨n0,fn0⟩:=hN 0 _ rfl
 obtain⟨i0,fi0⟩:=hI 0 _ rfl
 have hwr:IntKind.i64.wrap (n-N)=n-N:=IntWalk.i64_in _ (by omega)
 have hdr:=(Up.refl (W2.setCell ⟨w.heap.size,0,none⟩ (.int .i64 (n-N)))).drew
 have hN3:=(hN.put 0 (.int .i64 (n-N))).up hdr
 have hI3:=(hI.other (b':=w.heap.size) (by omega) 0 (.int .i64 (n-N))).up hdr
 have hR3:=(hR.other (b':=w.heap.size) (by omega) 0 (.int .i64 (n-N))).up hdr
 have hD3:=(hD.other (b':=w.heap.size) (by omega) 0 (.int .i64 (n-N))).up hdr
 have U3:=(u.setCell (p:=⟨w.heap.size,0,none⟩) (Nat.le_refl _) (.int .i64 (n-N))).drew
 clear hdr;go_cut [12] (fun _ wx=>∃Z:World,Z=wx∧Bx Z w.heap.size [.int .i64 (n-N)]∧Bx Z (w.heap.size+1) [.bool false]∧Bx Z (w.heap.size+1+1) [.int .i64 0,.int .i64 0,.int .i64 0]∧Bx Z bd [.int .i64 ((r:Int)+1),.int .i64 1,.int .i64 0]∧Up w Z)
 case first =>
  go_region_law (first
   |(go_simp;go_at_call 249;with_reducible refine(CA.out _).mono ?_;rintro e w3 ⟨rfl,rfl⟩))
  all_goals
   go_wp2_with fail
   go_meet
   exact⟨_,rfl,hN3,hI3,hR3,hD3,U3⟩
 case rest =>
 clear hN hI hR hD u n0 fn0 i0 fi0 hN3 hI3 hR3 hD3 U3 hwr;obtain⟨Z,hZ,hN,hI,hR,hD,u⟩:=hcut
 subst hZ;have ne1:w.heap.size≠bd:=by omega
 have ne2:w.heap.size+1≠bd:=by omega
 have ne3:w.heap.size+1+1≠bd:=by omega
 go_wp2_with fail
 go_loopg [17] 11 (fun k t wr=>∃j:Nat,j≤q∧k=11-j∧Bx wr w.heap.size [.int .i64 (n-N-cum ((r:Int)+1) j)]∧Bx wr (w.heap.size+1) [.bool false]∧Bx wr (w.heap.size+1+1) [.int .i64 0,.int .i64 0,.int .i64 0]∧Bx wr bd [.int .i64 ((r:Int)+1),.int .i64 ((j:Int)+1),.int .i64 0]∧Up w wr)
 case atStart=>exact⟨0,by omega,rfl,by simpa[cum] using hN,hI,hR,by simpa using hD,u⟩
 case round =>
  clear hN hI hR hD u;obtain⟨j,hj,rfl,hN,hI,hR,hD,u⟩:=hrel
  have bC:=cum_bd ((r:Int)+1) j (by omega)
  have bL:=ml_bd ((r:Int)+1) ((j:Int)+1)
  have HS:=qh (cum_s ((r:Int)+1) j)
  have HQ:=qh (fun h:(j:Int)+1≤q=>cum_mono ((r:Int)+1) (j+1) q (by omega))
  have HJ:=qh (show j=q→cum ((r:Int)+1) j=cum ((r:Int)+1) q∧ml ((r:Int)+1) ((j:Int)+1)=ml ((r:Int)+1) ((q:Int)+1) from fun h=>by rw[h];exact⟨rfl,rfl⟩)
  have cL:=fun wx=>lengthOfMonth_any ((r:Int)+1) ((j:Int)+1) wx
  obtain⟨C,hC⟩:∃z,z=cum ((r:Int)+1) j:=⟨_,rfl⟩
  obtain⟨L,hL⟩:∃z,z=ml ((r:Int)+1) ((j:Int)+1):=⟨_,rfl⟩
  rw[← hC]at hN bC HS HJ;rw[← hL]at bL HS HJ;simp only[← hL]at cL
  have CL:=qh cL
  clear hC hL cL;obtain⟨n0,fn0⟩:=hN 0 _ rfl
  obtain⟨i0,fi0⟩:=hI 0 _ rfl
  obtain⟨d0,d1,d2⟩:=hD.c3
  have N0:=cell_regrown n0
  have I0:=cell_regrown i0
  have D1:=cell_regrown d1
  have cN:∀dd os,Calls Tryz.prog 250 #[.int .i64 ((r:Int)+1),.int .i64 ((j:Int)+1),.bool false] (grow (redrawn wr dd) os) fun e w''=>e=.returned (.int .i64 L)∧∃p:Regrown,w''=grow (redrawn wr p.d) p.os:=fun dd os=>Calls.regrown_of ((CL.out _).mono fun e w' ⟨h,h2⟩=>⟨h,by rw[← h2];exact Up.refl _⟩)
  go_wp2_with fail
  refine wp_region_quiet_below (by kernel_rfl) (by kernel_rfl) ?_
  repeat (first|go_big_quiet_step ((go_at_call 250;exact cN _ _))|quiet_step ((go_at_call 250;exact cN _ _)))
  refine wpQuiet_nil ?_
  intro w2 hw2
  obtain⟨⟨dq,osq⟩,hw2⟩:=hw2
  have v:Up wr w2:=by rw[hw2];exact below_regrown _ _ _
  replace hN:=hN.up v;replace hI:=hI.up v;replace hR:=hR.up v;replace hD:=hD.up v;replace u:=u.trans v;clear hw2 N0 I0 D1 cN v n0 fn0 i0 fi0 d0 d1 d2;have nej1:w.heap.size≠bd:=by omega
  by_cases hc:L≤n-N-C
  ·have hcd:decide (L≤n-N-C)=true:=by simpa using hc
   have HJ2:=qh (show j+1≤q by
    rcases Nat.lt_or_ge j q with h|h
    ·omega
    ·have h2:=HJ.out (by omega)
     have h3:=HD.out
     rw[← h2.1,← h2.2]at h3;omega)
   have hwr:IntKind.i64.wrap (n-N-C-L)=n-N-C-L:=IntWalk.i64_in _ (by omega)
   obtain⟨n0,fn0⟩:=hN 0 _ rfl
   obtain⟨i0,fi0⟩:=hI 0 _ rfl
   obtain⟨d0,d1,d2⟩:=hD.c3
   have hdr:=(Up.refl (w2.setCell ⟨w.heap.size,0,none⟩ (.int .i64 (n-N-C-L)))).drew
   have hN3:=(hN.put 0 (.int .i64 (n-N-C-L))).up hdr
   have hI3:=(hI.other (b':=w.heap.size) (by omega) 0 (.int .i64 (n-N-C-L))).up hdr
   have hR3:=(hR.other (b':=w.heap.size) (by omega) 0 (.int .i64 (n-N-C-L))).up hdr
   have hD3:=(hD.other (b':=w.heap.size) (by omega) 0 (.int .i64 (n-N-C-L))).up hdr
   have U3:=(u.setCell (p:=⟨w.heap.size,0,none⟩) (Nat.le_refl _) (.int .i64 (n-N-C-L))).drew
   clear hdr;go_upto_region 5 with fail
   go_cut [24] (fun _ wx=>∃Z:World,Z=wx∧Bx Z w.heap.size [.int .i64 (n-N-C-L)]∧Bx Z (w.heap.size+1) [.bool false]∧Bx Z (w.heap.size+1+1) [.int .i64 0,.int .i64 0,.int .i64 0]∧Bx Z bd [.int .i64 ((r:Int)+1),.int .i64 ((j:Int)+1),.int .i64 0]∧Up w Z)
   case first =>
    go_region_law (first
     |(go_simp;go_at_call 250;with_reducible refine(CL.out _).mono ?_;rintro e w3 ⟨rfl,rfl⟩))
    all_goals
     go_wp2_with fail
     go_meet
     exact⟨_,rfl,hN3,hI3,hR3,hD3,U3⟩
   case rest =>
   clear hN hI hR hD u n0 fn0 i0 fi0 hN3 hI3 hR3 hD3 U3 hwr d0 d1 d2;obtain⟨Z3,hZ3,hN,hI,hR,hD,u⟩:=hcut
   subst hZ3;obtain⟨d0,d1,d2⟩:=hD.c3
   obtain⟨f0,f1,f2⟩:=hD.f3
   have hj11:=HJ2.out
   go_wp2;go_roundg (11-(j+1))
   case measure=>omega
   case rel=>exact⟨j+1,HJ2.out,by omega,by rw[HS.out,show n-N-(C+L)=n-N-C-L by omega];exact hN.other (b':=bd) (by omega) 1 (.int .i64 ((j:Int)+1+1)),hI.other (by omega) _ _,hR.other (by omega) _ _,by simpa using hD.put 1 (.int .i64 ((j:Int)+1+1)),u.setCell (by show w.heap.size≤bd;omega) _⟩
  ·have hcd:decide (L≤n-N-C)=false:=by simpa using hc
   have HJ2:=qh (show j=q by
    rcases Nat.lt_or_ge j q with h|h
    ·have h2:=HQ.out (by omega)
     rw[HS.out]at h2;have h3:=HD.out
     omega
    ·omega)
   have HE:=qh (show n-N-C+1=dD n by have h3:=HD.out;have h2:=HJ.out HJ2.out;rw[← h2.1]at h3;exact h3.1)
   have HM2:=qh (show(j:Int)+1=dM n by rw[HM.out,HJ2.out])
   obtain⟨n0,fn0⟩:=hN 0 _ rfl
   obtain⟨d0,d1,d2⟩:=hD.c3
   obtain⟨f0,f1,f2⟩:=hD.f3
   obtain⟨r0,r1,r2⟩:=hR.c3
   obtain⟨g0,g1,g2⟩:=hR.f3
   go_wp2;refine bodyPost_ret (v:=.agg #[.int .i64 ((r:Int)+1),.int .i64 ((j:Int)+1),.int .i64 (n-N-C+1)]) (by simp[results,Tryz.results208,go_sem,r0,r1,r2]) rfl ⟨?_,?_⟩
   ·rw[HE.out,HY.out,HM2.out]
   ·iterate 4 refine Up.setCell ?_ (by first|(simp;done)|(show w.heap.size≤bd;omega)|(show w.heap.size≤w.heap.size+1+1;omega)) _
    exact u
theorem weekdayOf_any(n:Int)(w:World)(h:0≤n)(h2:n≤800000):Calls Tryz.prog 216 #[.int .i64 n] w fun e w'=>e=.returned (.int .i64 (wkN n))∧w=w':=by
 go_enter Tryz.func216,Tryz.ntmps216
 go_wp2;go_ret;exact⟨rfl,rfl⟩
theorem isYear_any(y:Int)(w:World):Calls Tryz.prog 292 #[.int .i64 y] w fun e w'=>e=.returned (.bool (inB y 1 2000))∧w=w':=by
 go_enter Tryz.func292,Tryz.ntmps292
 go_wp2_with (go_at_call 64;refine(within_any _ _ _ _).mono ?_;rintro e w' ⟨rfl,rfl⟩)
 go_ret;exact⟨rfl,rfl⟩
def moN(y:Int):Int:=(19*(y % 19)+15) % 30
theorem moonDays_any(y:Int)(w:World)(h:0≤y)(h2:y≤3000):Calls Tryz.prog 313 #[.int .i64 y] w fun e w'=>e=.returned (.int .i64 (moN y))∧w=w':=by
 go_enter Tryz.func313,Tryz.ntmps313
 go_wp2;go_ret;exact⟨rfl,rfl⟩
theorem oldEaster_any(y:Int)(w:World)(h:1≤y)(h2:y≤2001):Calls Tryz.prog 290 #[.int .i64 y] w fun e w'=>e=.returned (.int .i64 (eaN y))∧Up w w':=by
 have e4:=ea_bd (y:=y) (by omega)
 have cE:=fun wx=>dayOf_any y (eaM y) (eaD y) wx h h2 (by omega) (by omega) e4.2.2.1 e4.2.2.2
 have a2:0≤moN y∧moN y≤29:=by unfold moN;omega
 have hs:esS y=moN y+(2*(y % 4)+4*(y % 7)-moN y+34) % 7+114:=rfl
 obtain⟨p,hp⟩:∃z,z=moN y:=⟨_,rfl⟩
 have cM:=fun wx=>moonDays_any y wx (by omega) (by omega)
 simp only[← hp]at cM
 rw[← hp]at a2 hs;clear hp;have a3:0≤y % 4∧y % 4≤3:=by omega
 have a4:0≤y % 7∧y % 7≤6:=by omega
 have a5:0≤(2*(y % 4)+4*(y % 7)-p+34) % 7∧(2*(y % 4)+4*(y % 7)-p+34) % 7≤6:=by omega
 have HN:=qh (ea_num y)
 rw[HN.out]at cE;simp only[eaM,eaD,hs]at cE
 have CE:=qh cE
 clear cE hs e4;go_enter Tryz.func290,Tryz.ntmps290
 go_wp2_with (first|(go_at_call 313;refine(cM _).mono ?_;rintro e w' ⟨rfl,rfl⟩)|(go_at_call 256;refine(CE.out _).mono ?_;rintro e w' ⟨rfl,v⟩))
 go_ret;exact⟨rfl,v⟩
def fxV:List Value:=[.int .i64 0,.int .i64 1,.int .i64 1,.int .i64 0,.int .i64 1,.int .i64 6,.int .i64 0,.int .i64 2,.int .i64 2,.int .i64 0,.int .i64 3,.int .i64 25,.int .i64 0,.int .i64 6,.int .i64 24,.int .i64 0,.int .i64 6,.int .i64 29,.int .i64 0,.int .i64 8,.int .i64 10,.int .i64 0,.int .i64 8,.int .i64 15,.int .i64 0,.int .i64 9,.int .i64 29,.int .i64 0,.int .i64 11,.int .i64 1,.int .i64 0,.int .i64 11,.int .i64 11,.int .i64 0,.int .i64 11,.int .i64 30,.int .i64 0,.int .i64 12,.int .i64 6,.int .i64 0,.int .i64 12,.int .i64 25]
theorem fx14{k:Nat}(h:k<14):fxV[k*3]?=some (.int .i64 0)∧fxV[k*3+1]?=some (.int .i64 (feM k))∧fxV[k*3+2]?=some (.int .i64 (feD k))∧1≤feM k∧feM k≤12∧1≤feD k∧feD k≤31:=by
 have hk:k=0∨k=1∨k=2∨k=3∨k=4∨k=5∨k=6∨k=7∨k=8∨k=9∨k=10∨k=11∨k=12∨k=13:=by omega
 rcases hk with rfl|rfl|rfl|rfl|rfl|rfl|rfl|rfl|rfl|rfl|rfl|rfl|rfl|rfl<;>exact⟨rfl,rfl,rfl,by decide,by decide,by decide,by decide⟩
theorem fixedFeasts_any(w:World):Calls Tryz.prog 289 #[] w fun e w'=>∃b off,e=.returned (.slice (some ⟨b,off,none⟩) 14 14)∧(∀k:Nat,k<14→w'.cell? ⟨b,off+k*3,none⟩=some (.int .i64 0)∧w'.cell? ⟨b,off+k*3+1,none⟩=some (.int .i64 (feM k))∧w'.cell? ⟨b,off+k*3+2,none⟩=some (.int .i64 (feD k)))∧Up w w':=by
 have hB:=Bx.new w fxV.toArray 265
 have u:=Up.alloc w (.cells fxV.toArray 265)
 simp only[fxV]at hB u
 go_enter Tryz.func289,Tryz.ntmps289
 go_wp2;go_ret;refine⟨w.heap.size,0,rfl,fun k hk=>?_,u⟩
 obtain⟨h0,h1,h2,-⟩:=fx14 hk
 rw[Nat.zero_add];exact⟨(hB _ _ h0).1,(hB _ _ h1).1,(hB _ _ h2).1⟩
theorem movableFeasts_any(w:World):Calls Tryz.prog 291 #[] w fun e w'=>∃b off,e=.returned (.slice (some ⟨b,off,none⟩) 6 6)∧(∀k:Nat,k<6→w'.cell? ⟨b,off+k,none⟩=some (.int .i64 (feO ((k:Int)+14))))∧Up w w':=by
 have hB:=Bx.new w #[.int .i64 (-46),.int .i64 (-7),.int .i64 0,.int .i64 39,.int .i64 49,.int .i64 56] 2
 have u:=Up.alloc w (.cells #[.int .i64 (-46),.int .i64 (-7),.int .i64 0,.int .i64 39,.int .i64 49,.int .i64 56] 2)
 go_enter Tryz.func291,Tryz.ntmps291
 go_wp2;go_ret;refine⟨w.heap.size,0,rfl,fun k hk=>?_,u⟩
 rw[Nat.zero_add];exact(hB _ _ (fe6 hk).1).1
theorem feastDay_a(k:Nat)(y:Int)(w:World)(hk:k<14)(hy:1≤y)(hy2:y≤2000) :
 Calls Tryz.prog 251 #[.int .i64 (k:Int),.int .i64 y] w fun e w'=>e=.returned (.int .i64 (feN k y))∧Up w w':=by
 obtain⟨-,-,-,g1,g2,g3,g4⟩:=fx14 hk
 have hE:=qh (show feN k y=num y (feM k) (feD k) by unfold feN;rw[if_pos (by omega)])
 have hkk:(k:Int)<14:=by omega
 have hlt:decide ((14:Int)≤(k:Int))=false:=by simp;omega
 go_enter Tryz.func251,Tryz.ntmps251
 go_wp2_with fail
 refine(fixedFeasts_any _).mono ?_
 rintro e w1 ⟨b,off,rfl,hc,v⟩
 obtain⟨c0,c1,c2⟩:=hc k hk
 clear hc;obtain⟨M,hM⟩:∃z,z=feM k:=⟨_,rfl⟩
 obtain⟨D,hD⟩:∃z,z=feD k:=⟨_,rfl⟩
 rw[← hM]at c1 g1 g2 hE;rw[← hD]at c2 g3 g4 hE;clear hM hD;go_wp2_with (go_at_call 256;refine(dayOf_any y M D _ hy (by omega) g1 g2 g3 g4).mono ?_;rintro e w2 ⟨rfl,v2⟩)
 go_ret;exact⟨ret_int hE.out.symm,Up.trans (by repeat (first|exact v|refine Up.allocs ?_ _|refine Up.setCell ?_ (by first|exact v.size|(simp;done)) _)) v2⟩
theorem feastDay_b(k:Nat)(y:Int)(w:World)(hk:k<6)(hy:1≤y)(hy2:y≤2000) :
 Calls Tryz.prog 251 #[.int .i64 ((k:Int)+14),.int .i64 y] w fun e w'=>e=.returned (.int .i64 (feN ((k:Int)+14) y))∧Up w w':=by
 obtain⟨-,g1,g2⟩:=fe6 hk
 have hE:=qh (show feN ((k:Int)+14) y=eaN y+feO ((k:Int)+14) by unfold feN;rw[if_neg (by omega)])
 have bE:=eaN_bd hy (show y≤2001 by omega)
 have hkk:(k:Int)<6:=by omega
 have hlt:decide ((14:Int)≤(k:Int)+14)=true:=by simp;omega
 have hwk:IntKind.i64.wrap (k:Int)=(k:Int):=IntWalk.i64_in _ (by omega)
 have cE:=fun wx=>oldEaster_any y wx hy (by omega)
 obtain⟨N,hN⟩:∃z,z=eaN y:=⟨_,rfl⟩
 rw[← hN]at bE hE;simp only[← hN]at cE
 clear hN;go_enter Tryz.func251,Tryz.ntmps251
 go_wp2_with fail
 refine(fixedFeasts_any _).mono ?_
 rintro e w1 ⟨b,off,rfl,-,v⟩
 go_wp2_with fail
 refine(cE _).mono ?_
 rintro e w2 ⟨rfl,v2⟩
 go_wp2_with fail
 refine(movableFeasts_any _).mono ?_
 rintro e w3 ⟨b3,off3,rfl,hc,v3⟩
 have c0:=hc k hk
 clear hc;obtain⟨O,hO⟩:∃z,z=feO ((k:Int)+14):=⟨_,rfl⟩
 rw[← hO]at c0 g1 g2 hE;clear hO;go_wp2;go_ret;exact⟨ret_int hE.out.symm,(v.trans v2).trans v3⟩
theorem feastDay_any(f y:Int)(w:World)(hf:0≤f)(hf2:f≤19)(hy:1≤y)(hy2:y≤2000) :
 Calls Tryz.prog 251 #[.int .i64 f,.int .i64 y] w fun e w'=>e=.returned (.int .i64 (feN f y))∧Up w w':=by
 rcases Int.lt_or_le f 14 with h|h
 ·obtain⟨k,rfl⟩:∃k:Nat,f=k:=⟨f.toNat,by omega⟩
  exact feastDay_a k y w (by omega) hy hy2
 ·obtain⟨k,hk⟩:∃k:Nat,f=(k:Int)+14:=⟨(f-14).toNat,by omega⟩
  subst hk;exact feastDay_b k y w (by omega) hy hy2
theorem relatedDay_any(f r k y:Int)(w:World)(hf:0≤f)(hf2:f≤19)(hr:0≤r)(hr2:r≤4)(hk:0≤k)(hk2:k≤6)(hy:1≤y)(hy2:y≤2000) :
 Calls Tryz.prog 209 #[.int .i64 f,.int .i64 r,.int .i64 k,.int .i64 y] w fun e w'=>e=.returned (.int .i64 (rlN f r k y))∧Up w w':=by
 have cD:=fun wx=>feastDay_any f y wx hf hf2 hy hy2
 have bF:=feN_bd hf hf2 hy hy2
 have HE:=qh (show rlN f r k y=if r=1 then feN f y-1 else if r=2 then feN f y+7 else if r=3 then feN f y+1+(k-wkN (feN f y)+13) % 7
  else if r=4 then feN f y-1-(wkN (feN f y)-k+13) % 7 else feN f y from rfl)
 have k0:0≤wkN (feN f y)∧wkN (feN f y)≤6:=by unfold wkN;omega
 obtain⟨N,hN⟩:∃z,z=feN f y:=⟨_,rfl⟩
 rw[← hN]at bF HE k0;simp only[← hN]at cD
 clear hN;have cW:=fun wx=>weekdayOf_any N wx (by omega) (by omega)
 obtain⟨K,hK⟩:∃z,z=wkN N:=⟨_,rfl⟩
 rw[← hK]at HE k0;simp only[← hK]at cW
 clear hK;have CD:=qh cD
 have CW:=qh cW
 clear cD cW;have j1:0≤(k-K+13) % 7∧(k-K+13) % 7≤6:=by omega
 have j2:0≤(K-k+13) % 7∧(K-k+13) % 7≤6:=by omega
 have hr':r=0∨r=1∨r=2∨r=3∨r=4:=by omega
 rcases hr' with rfl|rfl|rfl|rfl|rfl
 all_goals
  go_enter Tryz.func209,Tryz.ntmps209
  go_wp2_with (first|(go_at_call 251;refine(CD.out _).mono ?_;rintro e w1 ⟨rfl,v⟩)|(go_at_call 216;refine(CW.out _).mono ?_;rintro e w2 ⟨rfl,rfl⟩))
  go_ret;exact⟨ret_int (by rw[HE.out];simp),v⟩
theorem beginOf_any(s y:Int)(w:World)(hs:0≤s)(hs2:s≤6)(hy:2≤y)(hy2:y≤2000) :
 Calls Tryz.prog 294 #[.int .i64 s,.int .i64 y] w fun e w'=>e=.returned (.int .i64 (bgN s y))∧Up w w':=by
 have hs':s=0∨s=1∨s=2∨s=3∨s=4∨s=5∨s=6:=by omega
 have HE:=qh (st_y (s:=s) (y:=y))
 have HN:=qh (show num y 1 1=ny y by unfold num;simp[cum])
 rcases hs' with rfl|rfl|rfl|rfl|rfl|rfl|rfl
 ·go_enter Tryz.func294,Tryz.ntmps294
  go_wp2_with (go_at_call 249;refine(newYear_any _ _ (by omega) (by omega)).mono ?_;rintro e w1 ⟨rfl,rfl⟩)
  go_ret;exact⟨ret_int (by rw[HE.out,← HN.out];simp),Up.refl _⟩
 ·go_enter Tryz.func294,Tryz.ntmps294
  go_wp2_with (go_at_call 256;refine(dayOf_any _ _ _ _ (by omega) (by omega) (by omega) (by omega) (by omega) (by omega)).mono ?_;rintro e w1 ⟨rfl,v⟩)
  go_ret;exact⟨ret_int (by rw[HE.out];simp),v⟩
 ·go_enter Tryz.func294,Tryz.ntmps294
  go_wp2_with (go_at_call 256;refine(dayOf_any _ _ _ _ (by omega) (by omega) (by omega) (by omega) (by omega) (by omega)).mono ?_;rintro e w1 ⟨rfl,v⟩)
  go_ret;exact⟨ret_int (by rw[HE.out];simp),v⟩
 ·go_enter Tryz.func294,Tryz.ntmps294
  go_wp2_with (go_at_call 256;refine(dayOf_any _ _ _ _ (by omega) (by omega) (by omega) (by omega) (by omega) (by omega)).mono ?_;rintro e w1 ⟨rfl,v⟩)
  go_ret;exact⟨ret_int (by rw[HE.out];simp),v⟩
 ·go_enter Tryz.func294,Tryz.ntmps294
  go_wp2_with (go_at_call 290;refine(oldEaster_any _ _ (by omega) (by omega)).mono ?_;rintro e w1 ⟨rfl,v⟩)
  go_ret;exact⟨ret_int (by rw[HE.out];simp),v⟩
 ·go_enter Tryz.func294,Tryz.ntmps294
  go_wp2_with (go_at_call 256;refine(dayOf_any _ _ _ _ (by omega) (by omega) (by omega) (by omega) (by omega) (by omega)).mono ?_;rintro e w1 ⟨rfl,v⟩)
  go_ret;exact⟨ret_int (by rw[HE.out];simp),v⟩
 ·go_enter Tryz.func294,Tryz.ntmps294
  go_wp2_with (go_at_call 256;refine(dayOf_any _ _ _ _ (by omega) (by omega) (by omega) (by omega) (by omega) (by omega)).mono ?_;rintro e w1 ⟨rfl,v⟩)
  go_ret;exact⟨ret_int (by rw[HE.out];simp),v⟩
theorem yearSpan_any(s y:Int)(w:World)(hs:0≤s)(hs2:s≤6)(hy:2≤y)(hy2:y≤1999) :
 Calls Tryz.prog 255 #[.int .i64 s,.int .i64 y] w fun e w'=>e=.returned (.agg #[.int .i64 (bgN s y),.int .i64 (bgN s (y+1)-1)])∧Up w w':=by
 have b1:=bgN_bd (s:=s) hy (show y≤2000 by omega)
 have b2:=bgN_bd (s:=s) (show 2≤y+1 by omega) (show y+1≤2000 by omega)
 have cA:=fun wx=>beginOf_any s y wx hs hs2 hy (by omega)
 have cB:=fun wx=>beginOf_any s (y+1) wx hs hs2 (by omega) (by omega)
 obtain⟨p,hp⟩:∃z,z=bgN s y:=⟨_,rfl⟩
 obtain⟨r,hr⟩:∃z,z=bgN s (y+1):=⟨_,rfl⟩
 rw[← hp,← hr];rw[← hp]at b1;rw[← hr]at b2;simp only[← hp]at cA
 simp only[← hr]at cB
 have CA:=qh cA
 have CB:=qh cB
 clear hp hr cA cB;have u:Up w (w.alloc (.cells #[.int .i64 0,.int .i64 0] 84)):=Up.alloc w _
 have hR:=Bx.new w #[.int .i64 0,.int .i64 0] 84
 go_enter Tryz.func255,Tryz.ntmps255
 go_wp2_with fail
 generalize w.alloc (.cells #[.int .i64 0,.int .i64 0] 84)=W1 at *
 refine(CA.out _).mono ?_
 rintro e w1 ⟨rfl,v⟩
 replace hR:=hR.up v;replace u:=u.trans v;clear v;go_wp2_with fail
 refine(CB.out _).mono ?_
 rintro e w2 ⟨rfl,v⟩
 replace hR:=hR.up v;replace u:=u.trans v;clear v;obtain⟨r0,r1⟩:=hR.c2
 obtain⟨g0,g1⟩:=hR.f2
 go_wp2;refine bodyPost_ret (v:=.agg #[.int .i64 p,.int .i64 (r-1)]) (by simp[results,Tryz.results255,go_sem,r0,r1]) rfl ⟨rfl,?_⟩
 iterate 2 refine Up.setCell ?_ (by simp) _
 exact u
theorem yearOn_any(s n:Int)(w:World)(hs:0≤s)(hs2:s≤6)(h0:0≤n)(h1:n≤730499) :
 Calls Tryz.prog 214 #[.int .i64 s,.int .i64 n] w fun e w'=>e=.returned (.tuple #[.int .i64 (yrV s n),.bool (yrT s n)])∧Up w w':=by
 have hyb:=yOf_bd h0 h1
 obtain⟨Y,hY⟩:∃z,z=yOf n:=⟨_,rfl⟩
 have cO:=fun wx=>dateOf_any n wx h0 h1
 simp only[← hY]at cO
 rw[← hY]at hyb;have CO:=qh cO
 have HY:=qh hY
 clear hY cO;have hfd:=run_date0 Y (dM n) (dD n)
 go_enter Tryz.func214,Tryz.ntmps214
 go_wp2_with fail
 refine(CO.out _).mono ?_
 rintro e w1 ⟨rfl,u⟩
 go_wp2_with fail
 go_loopw [7,8] (fun t _ wr=>∃y:Int,Y-1≤y∧y≤Y+2∧t=.int .i64 y∧Hid (∀z,Y-1≤z→z<y→yrIs s n z=false)∧Up w wr) (fun t _ _=>(Y+2-intOf t).toNat)
 case atStart=>exact⟨Y-1,by omega,by omega,rfl,qh (fun z a b=>absurd b (by omega)),u⟩
 case round =>
  clear u;obtain⟨y,hy0,hy1,rfl,hb,u⟩:=hrel
  by_cases hlt:y≤Y+1
  ·rcases hys:ysB y with _|_
   ·have HS:=qh (show yrIs s n y=false by unfold yrIs;rw[hys];rfl)
    have HB:=qh hys
    clear hys;go_wp2_with fail
    refine(isStyleYear_any y _).mono ?_
    rintro e w2 ⟨rfl,rfl⟩
    rw[show inB y 2 1999=false from HB.out];go_wp2;go_roundw
    case rel=>exact⟨y+1,by omega,by omega,rfl,qh (fun z a b=>by
     rcases Int.lt_or_le z y with h|h
     ·exact hb.out z a h
     ·obtain rfl:z=y:=by omega
      exact HS.out),u⟩
    case measure=>simp[intOf];omega
   ·obtain⟨y2,y3⟩:=ysB_iff.1 hys
    have HB:=qh hys
    clear hys;have cA:=fun wx=>yearSpan_any s y wx hs hs2 y2 y3
    have HI:=qh (show yrIs s n y=inB n (bgN s y) (bgN s (y+1)-1) by unfold yrIs;rw[HB.out];rfl)
    obtain⟨p,hp⟩:∃z,z=bgN s y:=⟨_,rfl⟩
    obtain⟨r,hr⟩:∃z,z=bgN s (y+1)-1:=⟨_,rfl⟩
    rw[← hp,← hr]at HI;simp only[← hp,← hr]at cA
    have CA:=qh cA
    clear hp hr cA;go_wp2_with fail
    refine(isStyleYear_any y _).mono ?_
    rintro e w2 ⟨rfl,rfl⟩
    rw[show inB y 2 1999=true from HB.out];go_wp2_with fail
    refine(CA.out _).mono ?_
    rintro e w3 ⟨rfl,v3⟩
    go_wp2_with fail
    refine(within_any n p r _).mono ?_
    rintro e w5 ⟨rfl,rfl⟩
    replace u:=(u.trans v3).allocs (.cells #[.int .i64 p,.int .i64 r] 84)
    clear v3;rw[← HI.out];rcases hq:yrIs s n y with _|_
    ·have HQ:=qh hq
     clear hq;go_wp2;go_roundw
     case rel=>exact⟨y+1,by omega,by omega,rfl,qh (fun z a b=>by
      rcases Int.lt_or_le z y with h|h
      ·exact hb.out z a h
      ·obtain rfl:z=y:=by omega
       exact HQ.out),u⟩
     case measure=>simp[intOf];omega
    ·have HQ:=qh hq
     clear hq;have HR:=qh (yr_hit (s:=s) (n:=n) (y:=y) (by rw[← HY.out];exact hy0) (by rw[← HY.out];exact hlt) HQ.out (by rw[← HY.out];exact hb.out))
     go_wp2;go_ret2;exact⟨ret_ib HR.out.1.symm HR.out.2.symm,u⟩
  ·have HR:=qh (yr_miss (s:=s) (n:=n) (by rw[← HY.out];exact fun z a b=>hb.out z a (by omega)))
   go_wp2;go_ret2;exact⟨ret_ib HR.out.1.symm HR.out.2.symm,u⟩
def ybN(f k:Int):Int:=if 2000<yOf f+k-1 then 730500 else rbN f k
theorem inB_yes{n a b:Int}(h:a≤n)(h2:n≤b):inB n a b=true:=by simp[inB];exact⟨h,h2⟩
theorem inB_no{n a b:Int}(h:b<n):inB n a b=false:=by simp[inB];omega
theorem old_leap{Y Y0 M D:Int}(h1:1≤Y)(h2:Y≤2000)(m1:1≤M)(m2:M≤12)(d1:1≤D)(d2:D≤ml Y0 M):oldB Y M D=!decide (M=2∧D=29∧Y % 4≠0):=by
 have e:inB D 1 (ml Y M)=!decide (M=2∧D=29∧Y % 4≠0):=by
  by_cases hM:M=2
  ·have d3:D≤29:=by rw[hM]at d2;unfold ml at d2;rw[if_pos rfl]at d2;split at d2<;>omega
   by_cases hY:Y % 4=0
   ·rw[decide_eq_false (fun h=>h.2.2 hY),show ml Y M=29 by unfold ml;rw[if_pos hM,if_pos hY],inB_yes d1 d3];rfl
   ·rw[show ml Y M=28 by unfold ml;rw[if_pos hM,if_neg hY]]
    by_cases h29:D=29
    ·rw[decide_eq_true ⟨hM,h29,hY⟩,inB_no (by omega)];rfl
    ·rw[decide_eq_false (fun h=>h29 h.2.1),inB_yes d1 (by omega)];rfl
  ·rw[decide_eq_false (fun h=>hM h.1),inB_yes d1 (by rw[ml_same (y':=Y0) hM];exact d2)];rfl
 unfold oldB
 rw[e,inB_yes h1 h2,inB_yes m1 m2];rfl
theorem yearBegin_any(d:Nm)(k:Int)(w:World)(h0:0≤d.fr)(h1:d.fr≤730499)(hk:1≤k)(hk2:k≤3000) :
 Calls Tryz.prog 253 #[d.val,.int .i64 k] w fun e w'=>e=.returned (.int .i64 (ybN d.fr k))∧Up w w':=by
 have hyb:=yOf_bd h0 h1
 have hd:=date_bd d.fr
 have HE:=qh (show rbN d.fr k=if dM d.fr=2∧dD d.fr=29∧(yOf d.fr+k-1) % 4≠0 then num (yOf d.fr+k-1) 3 1 else num (yOf d.fr+k-1) (dM d.fr) (dD d.fr) from rfl)
 have HU:=qh (show ybN d.fr k=if 2000<yOf d.fr+k-1 then 730500 else rbN d.fr k from rfl)
 have hml:=ml_bd (yOf d.fr) (dM d.fr)
 have cO:=fun wx=>dateOf_any d.fr wx h0 h1
 obtain⟨nm,f,t⟩:=d
 simp only[]at *;have HO:=qh (fun(a:1≤yOf f+k-1) (b:yOf f+k-1≤2000)=>old_leap (Y:=yOf f+k-1) (Y0:=yOf f) (M:=dM f) (D:=dD f) a b hd.1 hd.2.1 hd.2.2.1 hd.2.2.2.1)
 obtain⟨Y,hY⟩:∃z,z=yOf f:=⟨_,rfl⟩
 obtain⟨M,hM⟩:∃z,z=dM f:=⟨_,rfl⟩
 obtain⟨D,hD⟩:∃z,z=dD f:=⟨_,rfl⟩
 rw[← hY,← hM]at hml;rw[← hY,← hM,← hD]at hd HE HO;rw[← hY]at hyb HU;simp only[← hY,← hM,← hD]at cO
 have CO:=qh cO
 obtain⟨m1,m2,d1,d2,-⟩:=hd
 clear hY hM hD cO;have u:=Up.alloc w (.cells #[.string nm,.int .i64 f,.int .i64 t] 233)
 have hB:=Bx.new w #[.string nm,.int .i64 f,.int .i64 t] 233
 by_cases hk3:2000<k
 ·have HR:=qh (show ybN f k=730500 by rw[HU.out,if_pos (by omega)])
  go_enter Tryz.func253,Tryz.ntmps253
  go_wp2_with fail
  refine(CO.out _).mono ?_
  rintro e w1 ⟨rfl,v⟩
  go_wp2_with fail
  go_ret;exact⟨ret_int HR.out.symm,(u.trans v).allocs _⟩
 obtain⟨Z,hZ⟩:∃z,z=Y+k-1:=⟨_,rfl⟩
 have hz1:Y+(k-1)=Z:=by omega
 rw[← hZ]at HE HU HO;have bZ:1≤Z∧Z≤4000:=by omega
 clear hZ;by_cases hz:2000<Z
 ·have HR:=qh (show ybN f k=730500 by rw[HU.out,if_pos hz])
  have hin:inB Z 1 2000=false:=by simp[inB];omega
  go_enter Tryz.func253,Tryz.ntmps253
  go_wp2_with fail
  refine(CO.out _).mono ?_
  rintro e w1 ⟨rfl,v⟩
  go_wp2_with (go_at_call 292;refine(isYear_any _ _).mono ?_;rintro e w2 ⟨rfl,rfl⟩;rw[hin])
  go_ret;exact⟨ret_int HR.out.symm,(u.trans v).allocs _⟩
 ·have hin:inB Z 1 2000=true:=by simp[inB];omega
  have HR:=qh (show ybN f k=rbN f k by rw[HU.out,if_neg hz])
  have ho:=HO.out (by omega) (by omega)
  obtain⟨b,hb⟩:∃b,b=decide (M=2∧D=29∧Z % 4≠0):=⟨_,rfl⟩
  rw[← hb]at ho;have cI:=fun wx=>implIsOldDate_any Z M D wx
  simp only[ho]at cI
  have CI:=qh cI
  have HT:=qh (show ybN f k=if b then num Z 3 1 else num Z M D by rw[HR.out,HE.out,hb];simp)
  clear ho hb cI HO HE;have v1:∀(w1:World),Up w1 (w1.alloc (.cells #[.int .i64 Z,.int .i64 M,.int .i64 D] 265)):=fun w1=>Up.alloc _ _
  go_enter Tryz.func253,Tryz.ntmps253
  go_wp2_with fail
  refine(CO.out _).mono ?_
  rintro e w1 ⟨rfl,v⟩
  go_wp2_with fail
  refine(isYear_any _ _).mono ?_
  rintro e w2 ⟨rfl,rfl⟩
  rw[hin];replace u:=(u.trans v).allocs (.cells #[.int .i64 Z,.int .i64 M,.int .i64 D] 265)
  have hD:=Bx.new w1 #[.int .i64 Z,.int .i64 M,.int .i64 D] 265
  obtain⟨bd,hbd⟩:∃z,z=w1.heap.size:=⟨_,rfl⟩
  have hle:w.heap.size≤bd:=by rw[hbd];exact Nat.le_trans (Nat.le_of_lt (by have:=hB.lt;simp at this ⊢)) v.size
  go_wp2_with fail
  rw[← hbd]at hD ⊢
  generalize w1.alloc (.cells #[.int .i64 Z,.int .i64 M,.int .i64 D] 265)=W2 at *
  clear v hbd;refine(CI.out _).mono ?_
  rintro e w2 ⟨rfl,v⟩
  replace hD:=hD.up v;replace u:=u.trans v;clear v;obtain⟨d0,d1',d2'⟩:=hD.c3
  obtain⟨f0,f1,f2⟩:=hD.f3
  rcases b with _|_
  ·go_wp2_with (go_at_call 256;refine(dayOf_any Z M D _ (by omega) (by omega) m1 m2 d1 (by omega)).mono ?_;rintro e w3 ⟨rfl,v⟩)
   go_ret;exact⟨ret_int HT.out.symm,u.trans v⟩
  ·go_wp2_with (go_at_call 256;refine(dayOf_any Z 3 1 _ (by omega) (by omega) (by omega) (by omega) (by omega) (by omega)).mono ?_;rintro e w3 ⟨rfl,v⟩)
   go_ret;exact⟨ret_int HT.out.symm,((u.setCell hle _).setCell hle _).trans v⟩
theorem covers_any(d:Nm)(n:Int)(w:World):Calls Tryz.prog 212 #[d.val,.int .i64 n] w fun e w'=>e=.returned (.bool (inB n d.fr d.to_))∧Up w w':=by
 obtain⟨nm,f,t⟩:=d
 go_enter Tryz.func212,Tryz.ntmps212
 go_wp2_with (go_at_call 64;refine(within_any _ _ _ _).mono ?_;rintro e w2 ⟨rfl,rfl⟩)
 go_ret;exact⟨rfl,Up.alloc _ _⟩
theorem yb_le{f k n:Int}(hn:n≤730499):ybN f k≤n ↔ rbN f k≤n:=by
 unfold ybN
 split
 ·rename_i h
  have h1:=(rb_in f k).1
  have h2:=ny_mono (show 2001≤yOf f+k-1 by omega)
  rw[ny_2001]at h2;omega
 ·exact Iff.rfl
theorem regnalYear_any(d:Nm)(n:Int)(w:World)(h0:0≤d.fr)(hfn:d.fr≤n)(h1:n≤730499) :
 Calls Tryz.prog 213 #[d.val,.int .i64 n] w fun e w'=>e=.returned (.int .i64 (rgY d.fr n))∧Up w w':=by
 have hyf:=yOf_bd h0 (show d.fr≤730499 by omega)
 have hyn:=yOf_bd (show 0≤n by omega) h1
 have HS:=qh (show rbN d.fr 1≤n by rw[rb_one];exact hfn)
 have CB:=qh (fun(k:Int) (wx:World) (hk:1≤k) (hk2:k≤3000)=>yearBegin_any d k wx h0 (by omega) hk hk2)
 have HL:=qh (fun k:Int=>yb_le (f:=d.fr) (k:=k) h1)
 have HB:=qh (fun(k:Int) (hk:1≤k) (hk2:yOf d.fr+k-1≤2001)=>rbN_bd (f:=d.fr) (k:=k) (by omega) hk2)
 have hbd:∀k:Int,1≤k→yOf d.fr+k-1≤2001→0≤ybN d.fr k∧ybN d.fr k≤731000:=fun k a b=>by
  unfold ybN;split
  ·omega
  ·exact HB.out k a b
 have HBD:=qh hbd
 clear hbd HB;obtain⟨nm,f,t⟩:=d
 simp only[]at *;have u:=Up.alloc w (.cells #[.string nm,.int .i64 f,.int .i64 t] 233)
 have hB:=Bx.new w #[.string nm,.int .i64 f,.int .i64 t] 233
 go_enter Tryz.func213,Tryz.ntmps213
 go_wp2_with fail
 generalize w.alloc (.cells #[.string nm,.int .i64 f,.int .i64 t] 233)=W1 at *
 go_loopw [5] (fun kv wr=>∃k:Int,1≤k∧yOf f+k-1≤yOf n∧kv=.int .i64 k∧Hid (rbN f k≤n)∧Bx wr w.heap.size [.string nm,.int .i64 f,.int .i64 t]∧Up w wr) (fun kv _=>(2001-intOf kv).toNat)
 case atStart=>exact⟨1,by omega,rb_year HS.out,rfl,HS,hB,u⟩
 case round =>
  clear hB u;obtain⟨k,hk1,hk2,rfl,hk3,hB,u⟩:=hrel
  obtain⟨y0,y1,y2⟩:=hB.c3
  have bR:=HBD.out (k+1) (by omega) (by omega)
  have c1:=fun wx=>CB.out (k+1) wx (by omega) (by omega)
  have hl:=HL.out (k+1)
  obtain⟨r,hr⟩:∃z,z=ybN f (k+1):=⟨_,rfl⟩
  rw[← hr]at bR hl;simp only[← hr]at c1
  have C1:=qh c1
  have HLK:=qh hl
  clear hr c1 hl;go_wp2_with fail
  refine(C1.out _).mono ?_
  rintro e w3 ⟨rfl,v⟩
  replace hB:=hB.up v;replace u:=u.trans v;clear v y0 y1 y2;by_cases hc:r≤n
  ·have HC:=qh (HLK.out.1 hc)
   have HY:=rb_year HC.out
   go_wp2;go_roundw
   case rel=>exact⟨k+1,by omega,by omega,rfl,HC,hB,u⟩
   case measure=>simp[intOf];omega
  ·have HE:=qh (rgY_eq hk3.out (show n<rbN f (k+1) by
    rcases Int.lt_or_le n (rbN f (k+1)) with h|h
    ·exact h
    ·exact absurd (HLK.out.2 h) hc))
   go_wp2;go_ret;exact⟨ret_int HE.out,u⟩
theorem indictionOf_any(y:Int)(w:World)(h:0≤y)(h2:y≤3000):Calls Tryz.prog 257 #[.int .i64 y] w fun e w'=>e=.returned (.int .i64 (inY y))∧w=w':=by
 go_enter Tryz.func257,Tryz.ntmps257
 go_wp2;go_ret;exact⟨rfl,rfl⟩
theorem indictionOn_any(k n:Int)(w:World)(hk:0≤k)(hk2:k≤2)(h0:0≤n)(h1:n≤730499) :
 Calls Tryz.prog 215 #[.int .i64 k,.int .i64 n] w fun e w'=>e=.returned (.int .i64 (inN k n))∧Up w w':=by
 have hyb:=yOf_bd h0 h1
 have HE:=qh (inN_eq k n)
 have cO:=fun wx=>dateOf_any n wx h0 h1
 obtain⟨Y,hY⟩:∃z,z=yOf n:=⟨_,rfl⟩
 simp only[← hY]at cO
 rw[← hY]at hyb HE;have CO:=qh cO
 clear hY cO;obtain⟨M,hM⟩:∃z,z=dM n:=⟨_,rfl⟩
 obtain⟨D,hD⟩:∃z,z=dD n:=⟨_,rfl⟩
 rw[← hM,← hD]at CO;clear hM hD;have hk':k=0∨k=1∨k=2:=by omega
 rcases hk' with rfl|rfl|rfl
 ·go_enter Tryz.func215,Tryz.ntmps215
  go_wp2_with fail
  refine(CO.out _).mono ?_
  rintro e w1 ⟨rfl,u⟩
  go_wp2_with fail
  refine(dayOf_any Y 9 1 _ (by omega) (by omega) (by omega) (by omega) (by omega) (by omega)).mono ?_
  rintro e w2 ⟨rfl,v⟩
  have hB:=((Bx.new w1 #[.int .i64 Y,.int .i64 M,.int .i64 D] 265).up (Up.alloc _ (.cells #[.int .i64 Y,.int .i64 9,.int .i64 1] 265))).up v
  obtain⟨d0,d1,d2⟩:=hB.c3
  have u2:=((u.allocs _).allocs _).trans v
  clear v hB;by_cases hc:num Y 9 1≤n
  ·have hd:decide (num Y 9 1≤n)=true:=by simpa using hc
   go_wp2_with (go_at_call 257;refine(indictionOf_any (Y+1) _ (by omega) (by omega)).mono ?_;rintro e w3 ⟨rfl,rfl⟩)
   go_ret;exact⟨ret_int (by rw[HE.out];simp[hc]),u2⟩
  ·have hd:decide (num Y 9 1≤n)=false:=by simpa using hc
   go_wp2_with (go_at_call 257;refine(indictionOf_any Y _ (by omega) (by omega)).mono ?_;rintro e w3 ⟨rfl,rfl⟩)
   go_ret;exact⟨ret_int (by rw[HE.out,if_neg (fun h=>by have:=h.2;simp at this;omega)]),u2⟩
 ·go_enter Tryz.func215,Tryz.ntmps215
  go_wp2_with fail
  refine(CO.out _).mono ?_
  rintro e w1 ⟨rfl,u⟩
  go_wp2_with fail
  refine(dayOf_any Y 9 24 _ (by omega) (by omega) (by omega) (by omega) (by omega) (by omega)).mono ?_
  rintro e w2 ⟨rfl,v⟩
  have hB:=((Bx.new w1 #[.int .i64 Y,.int .i64 M,.int .i64 D] 265).up (Up.alloc _ (.cells #[.int .i64 Y,.int .i64 9,.int .i64 24] 265))).up v
  obtain⟨d0,d1,d2⟩:=hB.c3
  have u2:=((u.allocs _).allocs _).trans v
  clear v hB;by_cases hc:num Y 9 24≤n
  ·have hd:decide (num Y 9 24≤n)=true:=by simpa using hc
   go_wp2_with (go_at_call 257;refine(indictionOf_any (Y+1) _ (by omega) (by omega)).mono ?_;rintro e w3 ⟨rfl,rfl⟩)
   go_ret;exact⟨ret_int (by rw[HE.out];simp[hc]),u2⟩
  ·have hd:decide (num Y 9 24≤n)=false:=by simpa using hc
   go_wp2_with (go_at_call 257;refine(indictionOf_any Y _ (by omega) (by omega)).mono ?_;rintro e w3 ⟨rfl,rfl⟩)
   go_ret;exact⟨ret_int (by rw[HE.out,if_neg (fun h=>by have:=h.2;simp at this;omega)]),u2⟩
 ·go_enter Tryz.func215,Tryz.ntmps215
  go_wp2_with fail
  refine(CO.out _).mono ?_
  rintro e w1 ⟨rfl,u⟩
  go_wp2_with (go_at_call 257;refine(indictionOf_any Y _ (by omega) (by omega)).mono ?_;rintro e w3 ⟨rfl,rfl⟩)
  go_ret;exact⟨ret_int (by rw[HE.out];simp),(u.allocs _).allocs _⟩
end Go.Proofs.YtihcmhmanfobcaaGreatDoor
