/- The calendar, the reference's: years of styles, years of reigns, indictions. -/
import Derived.Test.YtihcmhmanfobcaaGreatDoorCb
set_option maxHeartbeats 4000000
set_option maxRecDepth 100000
namespace Go.Proofs.YtihcmhmanfobcaaGreatDoor
open Go.RowKit Go.Sort
theorem ret_ib{a b:Int}{p q:Bool}(h:a=b)(g:p=q):Ending.returned (.tuple #[.int .i64 a,.bool p])=.returned (.tuple #[.int .i64 b,.bool q]):=by rw[h,g]
def yrV(s n:Int):Int:=(yrOn s n).getD 0
def yrT(s n:Int):Bool:=(yrOn s n).isSome
theorem yr_hit{s n y:Int}(h0:yOf n-1≤y)(h1:y≤yOf n+1)(h:yrIs s n y=true)(hb:∀z,yOf n-1≤z→z<y→yrIs s n z=false):yrV s n=y∧yrT s n=true:=by
 have hy:y=yOf n-1∨y=yOf n∨y=yOf n+1:=by omega
 unfold yrV yrT yrOn
 rcases hy with rfl|rfl|rfl
 ·rw[if_pos h];simp
 ·have:=hb (yOf n-1) (by omega) (by omega)
  rw[if_neg (by simp[this]),if_pos h];simp
 ·have a:=hb (yOf n-1) (by omega) (by omega)
  have b:=hb (yOf n) (by omega) (by omega)
  rw[if_neg (by simp[a]),if_neg (by simp[b]),if_pos h];simp
theorem yr_miss{s n:Int}(hb:∀z,yOf n-1≤z→z≤yOf n+1→yrIs s n z=false):yrV s n=0∧yrT s n=false:=by
 unfold yrV yrT yrOn
 rw[if_neg (by simp[hb (yOf n-1) (by omega) (by omega)]),if_neg (by simp[hb (yOf n) (by omega) (by omega)]),if_neg (by simp[hb (yOf n+1) (by omega) (by omega)])]
 simp
theorem ysB_iff{y:Int}:ysB y=true ↔ 2≤y∧y≤1999:=by simp[ysB,inB]
theorem l06On_any(s n:Int)(w:World)(hs:0≤s)(hs2:s≤6)(h0:0≤n)(h1:n≤730499) :
 Calls Tryz.prog 189 #[.int .i64 s,.int .i64 n] w fun e w'=>e=.returned (.tuple #[.int .i64 (yrV s n),.bool (yrT s n)])∧Up w w':=by
 have hyb:=yOf_bd h0 h1
 obtain⟨Y,hY⟩:∃z,z=yOf n:=⟨_,rfl⟩
 have cO:=fun wx=>l01Old_any n wx h0 h1
 simp only[← hY]at cO
 rw[← hY]at hyb;have CO:=qh cO
 have HY:=qh hY
 clear hY cO;have hfd:=run_date0 Y (dM n) (dD n)
 go_enter Tryz.func189,Tryz.ntmps189
 go_wp2_with fail
 refine(CO.out _).mono ?_
 rintro e w1 ⟨rfl,u⟩
 go_wp2_with fail
 go_loopw [7] (fun t wr=>∃y:Int,Y-1≤y∧y≤Y+2∧t=.int .i64 y∧Hid (∀z,Y-1≤z→z<y→yrIs s n z=false)∧Up w wr) (fun t _=>(Y+2-intOf t).toNat)
 case atStart=>exact⟨Y-1,by omega,by omega,rfl,qh (fun z a b=>absurd b (by omega)),u⟩
 case round =>
  clear u;obtain⟨y,hy0,hy1,rfl,hb,u⟩:=hrel
  by_cases hlt:y≤Y+1
  ·rcases hys:ysB y with _|_
   ·have HS:=qh (show yrIs s n y=false by unfold yrIs;rw[hys];rfl)
    have HB:=qh hys
    clear hys;go_wp2_with fail
    refine(l06Year_any y _).mono ?_
    rintro e w2 ⟨rfl,rfl⟩
    rw[show inB y 2 1999=false from HB.out];go_wp2;go_roundw
    case rel=>exact⟨y+1,by omega,by omega,rfl,qh (fun z a b=>by
     rcases Int.lt_or_le z y with h|h
     ·exact hb.out z a h
     ·obtain rfl:z=y:=by omega
      exact HS.out),u⟩
    case measure=>simp[intOf];omega
   ·obtain⟨y2,y3⟩:=ysB_iff.1 hys
    have HB:=qh hys
    clear hys;have b1:=bgN_bd (s:=s) y2 (show y≤2000 by omega)
    have b2:=bgN_bd (s:=s) (show 2≤y+1 by omega) (show y+1≤2000 by omega)
    have cA:=fun wx=>l06Begin_any s y wx hs hs2 y2 (by omega)
    have cB:=fun wx=>l06Begin_any s (y+1) wx hs hs2 (by omega) (by omega)
    have HI:=qh (show yrIs s n y=inB n (bgN s y) (bgN s (y+1)-1) by unfold yrIs;rw[HB.out];rfl)
    obtain⟨p,hp⟩:∃z,z=bgN s y:=⟨_,rfl⟩
    obtain⟨r,hr⟩:∃z,z=bgN s (y+1):=⟨_,rfl⟩
    rw[← hp,← hr]at HI;rw[← hp]at b1;rw[← hr]at b2;simp only[← hp]at cA
    simp only[← hr]at cB
    have CA:=qh cA
    have CB:=qh cB
    clear hp hr cA cB;go_wp2_with fail
    refine(l06Year_any y _).mono ?_
    rintro e w2 ⟨rfl,rfl⟩
    rw[show inB y 2 1999=true from HB.out];go_wp2_with fail
    refine(CA.out _).mono ?_
    rintro e w3 ⟨rfl,v3⟩
    go_wp2_with fail
    refine(CB.out _).mono ?_
    rintro e w4 ⟨rfl,v4⟩
    go_wp2_with fail
    refine(l01InU n p (r-1) _).mono ?_
    rintro e w5 ⟨rfl,v5⟩
    replace u:=((u.trans v3).trans v4).trans v5;clear v3 v4 v5;rw[← HI.out];rcases hq:yrIs s n y with _|_
    ·have HQ:=qh hq
     clear hq;go_wp2;go_roundw
     case rel=>exact⟨y+1,by omega,by omega,rfl,qh (fun z a b=>by
      rcases Int.lt_or_le z y with h|h
      ·exact hb.out z a h
      ·obtain rfl:z=y:=by omega
       exact HQ.out),u⟩
     case measure=>simp[intOf];omega
    ·have HQ:=qh hq
     clear hq;have HR:=qh (yr_hit (s:=s) (n:=n) (y:=y) (by rw[← HY.out];exact hy0) (by rw[← HY.out];exact hlt) HQ.out (by rw[← HY.out];exact hb.out))
     go_wp2;go_ret2;exact⟨ret_ib HR.out.1.symm HR.out.2.symm,u⟩
  ·have HR:=qh (yr_miss (s:=s) (n:=n) (by rw[← HY.out];exact fun z a b=>hb.out z a (by omega)))
   go_wp2;go_ret2;exact⟨ret_ib HR.out.1.symm HR.out.2.symm,u⟩
theorem l07Begin_any(d:Nm)(k:Int)(w:World)(h0:0≤d.fr)(h1:d.fr≤730499)(hk:1≤k)(hk2:yOf d.fr+k-1≤2001) :
 Calls Tryz.prog 231 #[d.val,.int .i64 k] w fun e w'=>e=.returned (.int .i64 (rbN d.fr k))∧Up w w':=by
 have hyb:=yOf_bd h0 h1
 have hd:=date_bd d.fr
 have HE:=qh (show rbN d.fr k=if dM d.fr=2∧dD d.fr=29∧(yOf d.fr+k-1) % 4≠0 then num (yOf d.fr+k-1) 3 1 else num (yOf d.fr+k-1) (dM d.fr) (dD d.fr) from rfl)
 have hml:=ml_bd (yOf d.fr) (dM d.fr)
 have cO:=fun wx=>l01Old_any d.fr wx h0 h1
 obtain⟨nm,f,t⟩:=d
 simp only[]at *;obtain⟨Y,hY⟩:∃z,z=yOf f:=⟨_,rfl⟩
 obtain⟨M,hM⟩:∃z,z=dM f:=⟨_,rfl⟩
 obtain⟨D,hD⟩:∃z,z=dD f:=⟨_,rfl⟩
 rw[← hY,← hM]at hml;rw[← hY,← hM,← hD]at hd HE;rw[← hY]at hyb hk2;simp only[← hY,← hM,← hD]at cO
 have CO:=qh cO
 obtain⟨m1,m2,d1,d2,-⟩:=hd
 clear hY hM hD cO;have u:=Up.alloc w (.cells #[.string nm,.int .i64 f,.int .i64 t] 233)
 have hB:=Bx.new w #[.string nm,.int .i64 f,.int .i64 t] 233
 have core:∀(b1 b2 b3:Bool),decide (M=2)=b1→decide (D=29)=b2→decide ((Y+k-1) % 4=0)=b3 →
  Calls Tryz.prog 231 #[.agg #[.string nm,.int .i64 f,.int .i64 t],.int .i64 k] w fun e w'=>e=.returned (.int .i64 (if b1 && (b2 && !b3) then num (Y+k-1) 3 1 else num (Y+k-1) M D))∧Up w w':=by
  intro b1 b2 b3 e1 e2 e3
  have E1:(M==2)=b1:=by rw[← e1];rfl
  have E2:(D==29)=b2:=by rw[← e2];rfl
  have cL:=fun wx=>l01Leap_any (Y+k-1) wx
  simp only[e3]at cL
  have CL:=qh cL
  clear cL e3 e1 e2;go_enter Tryz.func231,Tryz.ntmps231
  go_wp2_with fail
  generalize w.alloc (.cells #[.string nm,.int .i64 f,.int .i64 t] 233)=W1 at *
  obtain⟨y0,y1,y2⟩:=hB.c3
  go_wp2_with fail
  refine(CO.out _).mono ?_
  rintro e w1 ⟨rfl,v⟩
  replace u:=u.trans v;clear v y0 y1 y2;rcases b1 with _|_<;>rcases b2 with _|_<;>rcases b3 with _|_
  all_goals (go_wp2_with fail)
  iterate 6
   ·refine(l01Number_any (Y+k-1) M D _ (by omega) (by omega) (by omega) (by omega) (by omega) (by omega)).mono ?_
    rintro e w2 ⟨rfl,v⟩
    go_wp2;go_ret;exact⟨rfl,(u.allocs _).trans v⟩
  ·refine(CL.out _).mono ?_
   rintro e w2 ⟨rfl,rfl⟩
   go_wp2_with fail
   refine(l01Number_any (Y+k-1) 3 1 _ (by omega) (by omega) (by omega) (by omega) (by omega) (by omega)).mono ?_
   rintro e w2 ⟨rfl,v⟩
   go_wp2;go_ret;exact⟨rfl,(u.allocs _).trans v⟩
  ·refine(CL.out _).mono ?_
   rintro e w2 ⟨rfl,rfl⟩
   go_wp2_with fail
   refine(l01Number_any (Y+k-1) M D _ (by omega) (by omega) (by omega) (by omega) (by omega) (by omega)).mono ?_
   rintro e w2 ⟨rfl,v⟩
   go_wp2;go_ret;exact⟨rfl,(u.allocs _).trans v⟩
 refine(core _ _ _ rfl rfl rfl).mono fun e w' ⟨h,v⟩=>⟨?_,v⟩
 rw[h,HE.out];refine ret_int ?_
 by_cases a1:M=2<;>by_cases a2:D=29<;>by_cases a3:(Y+k-1) % 4=0<;>simp[a1,a2,a3]
theorem rbN_bd{f k:Int}(h0:1≤yOf f+k-1)(h1:yOf f+k-1≤2001):0≤rbN f k∧rbN f k≤731000:=by
 obtain⟨a,b,c,d,-⟩:=date_bd f
 have hm:=ml_bd (yOf f) (dM f)
 unfold rbN
 split
 ·exact num_bd h0 h1 (by omega) (by omega) (by omega) (by omega)
 ·exact num_bd h0 h1 a b c (by omega)
theorem l07Year_any(d:Nm)(n:Int)(w:World)(h0:0≤d.fr)(hfn:d.fr≤n)(h1:n≤730499) :
 Calls Tryz.prog 188 #[d.val,.int .i64 n] w fun e w'=>e=.returned (.int .i64 (rgY d.fr n))∧Up w w':=by
 have hyf:=yOf_bd h0 (show d.fr≤730499 by omega)
 have hyn:=yOf_bd (show 0≤n by omega) h1
 have hym:=yOf_mono hfn
 have HS:=qh (rb_start hfn)
 have cB:=fun(k:Int) (wx:World) (hk:1≤k) (hk2:yOf d.fr+k-1≤2001)=>l07Begin_any d k wx h0 (by omega) hk hk2
 have CN:=qh (fun wx=>l01Old_any n wx (by omega) h1)
 have CF:=qh (fun wx=>l01Old_any d.fr wx h0 (by omega))
 have CB:=qh cB
 clear cB;obtain⟨nm,f,t⟩:=d
 simp only[]at *;have hfn0:=run_date0 (yOf n) (dM n) (dD n)
 have hff0:=run_date0 (yOf f) (dM f) (dD f)
 have u:=Up.alloc w (.cells #[.string nm,.int .i64 f,.int .i64 t] 233)
 have hB:=Bx.new w #[.string nm,.int .i64 f,.int .i64 t] 233
 go_enter Tryz.func188,Tryz.ntmps188
 go_wp2_with fail
 generalize w.alloc (.cells #[.string nm,.int .i64 f,.int .i64 t] 233)=W1 at *
 obtain⟨y0,y1,y2⟩:=hB.c3
 have Y0:=cell_regrown y0
 have Y1:=cell_regrown y1
 have cN:∀dd os,Calls Tryz.prog 186 #[.int .i64 n] (grow (redrawn W1 dd) os) fun e w''=>e=.returned (.agg #[.int .i64 (yOf n),.int .i64 (dM n),.int .i64 (dD n)])∧∃p:Regrown,w''=grow (redrawn W1 p.d) p.os:=fun dd os=>Calls.regrown_of (CN.out _)
 have cF:∀dd os,Calls Tryz.prog 186 #[.int .i64 f] (grow (redrawn W1 dd) os) fun e w''=>e=.returned (.agg #[.int .i64 (yOf f),.int .i64 (dM f),.int .i64 (dD f)])∧∃p:Regrown,w''=grow (redrawn W1 p.d) p.os:=fun dd os=>Calls.regrown_of (CF.out _)
 refine wp_region_quiet_below (by kernel_rfl) (by kernel_rfl) ?_
 repeat (first|go_big_quiet_step ((go_at_call 186;first|with_reducible exact cN _ _|with_reducible exact cF _ _))|quiet_step ((go_at_call 186;first|with_reducible exact cN _ _|with_reducible exact cF _ _)))
 refine wpQuiet_nil ?_
 intro w2 hw2
 obtain⟨⟨dq,osq⟩,hw2⟩:=hw2
 have v:Up W1 w2:=by rw[hw2];exact below_regrown _ _ _
 replace hB:=hB.up v;replace u:=u.trans v;clear hw2 Y0 Y1 cN cF v y0 y1 y2 hfn0 hff0;have q0:1≤max 1 (yOf n-yOf f):=Int.le_max_left _ _
 obtain⟨k0,hk0⟩:∃z,z=max 1 (yOf n-yOf f):=⟨_,rfl⟩
 rw[← hk0]at HS q0 ⊢
 have q1:k0≤2000:=by omega
 clear hk0;go_wp2_with fail
 go_loopw [5] (fun kv wr=>∃k:Int,1≤k∧yOf f+k-1≤yOf n∧kv=.int .i64 k∧Hid (rbN f k≤n)∧Bx wr w.heap.size [.string nm,.int .i64 f,.int .i64 t]∧Up w wr) (fun kv _=>(2001-intOf kv).toNat)
 case atStart=>exact⟨k0,q0,rb_year HS.out,rfl,HS,hB,u⟩
 case round =>
  clear hB u;obtain⟨k,hk1,hk2,rfl,hk3,hB,u⟩:=hrel
  obtain⟨y0,y1,y2⟩:=hB.c3
  have bR:=rbN_bd (f:=f) (k:=k+1) (by omega) (by omega)
  have c1:=fun wx=>CB.out (k+1) wx (by omega) (by omega)
  obtain⟨r,hr⟩:∃z,z=rbN f (k+1):=⟨_,rfl⟩
  have HRk:=qh hr
  rw[← hr]at bR;simp only[← hr]at c1
  have C1:=qh c1
  clear hr c1;go_wp2_with fail
  refine(C1.out _).mono ?_
  rintro e w3 ⟨rfl,v⟩
  replace hB:=hB.up v;replace u:=u.trans v;clear v y0 y1 y2;by_cases hc:r≤n
  ·have HC:=qh (show rbN f (k+1)≤n by rw[← HRk.out];exact hc)
   have HY:=rb_year HC.out
   go_wp2;go_roundw
   case rel=>exact⟨k+1,by omega,by omega,rfl,HC,hB,u⟩
   case measure=>simp[intOf];omega
  ·have HE:=qh (rgY_eq hk3.out (show n<rbN f (k+1) by rw[← HRk.out];omega))
   go_wp2;go_ret;exact⟨ret_int HE.out,u⟩
theorem l08Year_any(y:Int)(w:World)(h:0≤y)(h2:y≤3000):Calls Tryz.prog 235 #[.int .i64 y] w fun e w'=>e=.returned (.int .i64 (inY y))∧w=w':=by
 go_enter Tryz.func235,Tryz.ntmps235
 go_wp2;go_ret;exact⟨rfl,rfl⟩
theorem inN_eq(k n:Int):inN k n=if k≠2∧num (yOf n) 9 (if k=1 then 24 else 1)≤n then inY (yOf n+1) else inY (yOf n):=rfl
theorem l08On_any(k n:Int)(w:World)(hk:0≤k)(hk2:k≤2)(h0:0≤n)(h1:n≤730499) :
 Calls Tryz.prog 190 #[.int .i64 k,.int .i64 n] w fun e w'=>e=.returned (.int .i64 (inN k n))∧Up w w':=by
 have hyb:=yOf_bd h0 h1
 have hfd:=run_date0 (yOf n) (dM n) (dD n)
 have HE:=qh (inN_eq k n)
 have cO:=fun wx=>l01Old_any n wx h0 h1
 obtain⟨Y,hY⟩:∃z,z=yOf n:=⟨_,rfl⟩
 simp only[← hY]at cO hfd
 rw[← hY]at hyb HE;have CO:=qh cO
 clear hY cO;have hk':k=0∨k=1∨k=2:=by omega
 rcases hk' with rfl|rfl|rfl
 ·go_enter Tryz.func190,Tryz.ntmps190
  go_wp2_with fail
  refine(CO.out _).mono ?_
  rintro e w1 ⟨rfl,u⟩
  go_wp2_with fail
  refine(l01Number_any Y 9 1 _ (by omega) (by omega) (by omega) (by omega) (by omega) (by omega)).mono ?_
  rintro e w2 ⟨rfl,v⟩
  have u2:=(u.allocs _).trans v
  by_cases hc:num Y 9 1≤n
  ·have hd:decide (num Y 9 1≤n)=true:=by simpa using hc
   go_wp2_with (go_at_call 235;refine(l08Year_any (Y+1) _ (by omega) (by omega)).mono ?_;rintro e w3 ⟨rfl,rfl⟩)
   go_ret;exact⟨ret_int (by rw[HE.out];simp[hc]),u2⟩
  ·have hd:decide (num Y 9 1≤n)=false:=by simpa using hc
   go_wp2_with (go_at_call 235;refine(l08Year_any Y _ (by omega) (by omega)).mono ?_;rintro e w3 ⟨rfl,rfl⟩)
   go_ret;exact⟨ret_int (by rw[HE.out,if_neg (fun h=>by have:=h.2;simp at this;omega)]),u2⟩
 ·go_enter Tryz.func190,Tryz.ntmps190
  go_wp2_with fail
  refine(CO.out _).mono ?_
  rintro e w1 ⟨rfl,u⟩
  go_wp2_with fail
  refine(l01Number_any Y 9 24 _ (by omega) (by omega) (by omega) (by omega) (by omega) (by omega)).mono ?_
  rintro e w2 ⟨rfl,v⟩
  have u2:=(u.allocs _).trans v
  by_cases hc:num Y 9 24≤n
  ·have hd:decide (num Y 9 24≤n)=true:=by simpa using hc
   go_wp2_with (go_at_call 235;refine(l08Year_any (Y+1) _ (by omega) (by omega)).mono ?_;rintro e w3 ⟨rfl,rfl⟩)
   go_ret;exact⟨ret_int (by rw[HE.out];simp[hc]),u2⟩
  ·have hd:decide (num Y 9 24≤n)=false:=by simpa using hc
   go_wp2_with (go_at_call 235;refine(l08Year_any Y _ (by omega) (by omega)).mono ?_;rintro e w3 ⟨rfl,rfl⟩)
   go_ret;exact⟨ret_int (by rw[HE.out,if_neg (fun h=>by have:=h.2;simp at this;omega)]),u2⟩
 ·go_enter Tryz.func190,Tryz.ntmps190
  go_wp2_with fail
  refine(CO.out _).mono ?_
  rintro e w1 ⟨rfl,u⟩
  go_wp2_with (go_at_call 235;refine(l08Year_any Y _ (by omega) (by omega)).mono ?_;rintro e w3 ⟨rfl,rfl⟩)
  go_ret;exact⟨ret_int (by rw[HE.out];simp),u.allocs _⟩
end Go.Proofs.YtihcmhmanfobcaaGreatDoor
