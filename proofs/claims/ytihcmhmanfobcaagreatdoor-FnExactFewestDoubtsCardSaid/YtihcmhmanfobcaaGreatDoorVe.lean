/- Lands by the reference. -/
import Derived.Test.YtihcmhmanfobcaaGreatDoorVd
import Derived.Deep.RegionHeld3
set_option maxHeartbeats 8000000
set_option maxRecDepth 100000
namespace Go.Proofs.YtihcmhmanfobcaaGreatDoor
open Go.RowKit Go.Sort
theorem ldB_pl{l:List ByteArray}{ws:List I3}{k:Nat}{d:ByteArray}(hd:l[k]?=some d)(h:plQ l k d=false):ldB l ws=false:=by simp[ldB,allK_no hd h]
theorem ldB_ws{l:List ByteArray}{ws:List I3}{k:Nat}{d:I3}(hd:ws[k]?=some d)(h:wyB l.length d=false):ldB l ws=false:=by
 have:ws.all (wyB l.length)=false:=by rw[List.all_eq_false];exact⟨d,List.mem_of_getElem? hd,by simp[h]⟩
 simp[ldB,this]
theorem ldB_end{l:List ByteArray}{ws:List I3}(h:∀k d,k<l.length→l[k]?=some d→plQ l k d=true)(h2:∀k d,k<ws.length→ws[k]?=some d→wyB l.length d=true):ldB l ws=(decide (1≤l.length) && (decide (l.length≤12) && decide (ws.length≤40))):=by
 have:ws.all (wyB l.length)=true:=by
  rw[List.all_eq_true];intro x hx
  obtain⟨j,hj,e⟩:=List.getElem_of_mem hx
  exact h2 j x hj (by rw[List.getElem?_eq_getElem hj,e])
 simp[ldB,allK_end h,this]
theorem plQ_any{l:List ByteArray}{k:Nat}{s:ByteArray}:plQ l k s=(nameB s 12 && !decide (0≤txIx (l.take k) s)):=by
 unfold plQ txIx;rw[ixB_any]
theorem specIsLand_any(s:Sl ByteArray)(t:Sl I3)(lo hi:Nat)(w:World)(h:SrSt w lo hi s)(h2:SrI3 w lo hi t) :
 Calls Tryz.prog 225 #[.agg #[.slice s.A s.l.length s.c,.slice t.A t.l.length t.c]] w fun e w'=>e=.returned (.bool (ldB s.l t.l))∧Up w w':=by
 obtain⟨A,c,l⟩:=s
 obtain⟨B,ct,ts⟩:=t
 have hn:l.length≤2000000:=h.len
 have hn2:ts.length≤2000000:=h2.len
 have hok:=qh h.ok
 have hr:=h.rd
 have hhi:=h.hhi
 have hr2:=h2.rd
 have hcap:l.length≤c:=h.cap.1
 have hcm:c≤maxLen:=h.cap.2
 unfold maxLen at hcm
 have HI:=qh h2.hhi
 clear h h2;show Calls _ _ #[.agg #[.slice A l.length c,.slice B ts.length ct]] _ fun e w'=>e=.returned (.bool (ldB l ts))∧_
 have u0:=Up.alloc w (.cells #[.slice A l.length c,.slice B ts.length ct] 55)
 have hB:=Bx.new w #[.slice A l.length c,.slice B ts.length ct] 55
 go_enter Tryz.func225,Tryz.ntmps225
 go_wp2;generalize w.alloc (.cells #[.slice A l.length c,.slice B ts.length ct] 55)=w0 at *
 go_loopw [3] (fun i wr=>∃k:Nat,k≤l.length∧i=.int .i64 k∧(∀j d,j<k→l[j]?=some d→plQ l j d=true)∧Up w0 wr) (fun i _=>l.length-(intOf i).toNat)
 case atStart=>exact⟨0,Nat.zero_le _,rfl,fun j d h=>absurd h (by omega),Up.refl _⟩
 case round =>
  obtain⟨k,hk,rfl,ha,hup⟩:=hrel
  have HA:=qh ha
  clear ha;obtain⟨x0,x1⟩:=(hB.up hup).c2
  by_cases hlt:k<l.length
  ·have R:=qh ((hr.take k).up (u0.trans hup) hhi)
   obtain⟨b,off,d,rfl,-,-,hd,q0⟩:=((hr.up u0 hhi).up hup (Nat.le_trans hhi u0.size)).txt hlt
   have HD:=qh hd
   clear hd;have hkc:k≤c:=by omega
   have hhr:hi≤wr.heap.size:=Nat.le_trans hhi (u0.trans hup).size
   have X0:=cell_regrown x0
   have Q0:=cell_regrown q0
   obtain⟨b1,hb1⟩:∃x,x=nameB d 12:=⟨_,rfl⟩
   obtain⟨iz,hiz⟩:∃x,x=txIx (l.take k) d:=⟨_,rfl⟩
   have cN:∀dd os,Calls Tryz.prog 182 #[.string d,.int .i64 12] (grow (redrawn wr dd) os) fun e w''=>e=.returned (.bool (nameB d 12))∧∃p:Regrown,w''=grow (redrawn wr p.d) p.os :=
    fun dd os=>Calls.regrown_of (l01NameU d 12 _ (hok.out d (List.mem_of_getElem? HD.out)))
   have cT:∀dd os,Calls Tryz.prog 53 #[.slice (some ⟨b,off,none⟩) k c,.string d] (grow (redrawn wr dd) os) fun e w''=>e=.returned (.int .i64 (txIx (l.take k) d))∧∃p:Regrown,w''=grow (redrawn wr p.d) p.os:=fun dd os=>by
    have h:=l01TextB_any (some ⟨b,off,none⟩) (l.take k) c lo hi d _ (R.out.up (below_regrown wr dd os) hhr) (by rw[List.length_take];omega)
    rw[List.length_take,Nat.min_eq_left hk]at h;exact Calls.regrown_of h
   rw[← hb1]at cN;rw[← hiz]at cT;have HE:=qh (show plQ l k d=(b1 && !decide (0≤iz)) by rw[plQ_any,hb1,hiz])
   clear hb1 hiz;go_wp2_with fail
   clear x0 x1 q0;rcases b1 with _|_
   ·refine wp_region_quiet_below (by kernel_rfl) (by kernel_rfl) ?_
    repeat (first|go_big_quiet_step ((first|(go_at_call 182;exact cN _ _)|(go_at_call 53;exact cT _ _)))|quiet_step ((first|(go_at_call 182;exact cN _ _)|(go_at_call 53;exact cT _ _))))
    refine wpQuiet_nil ?_
    intro w2 hw2
    obtain⟨⟨dq,osq⟩,hw2⟩:=hw2
    have hup2:Up wr w2:=by rw[hw2];exact below_regrown _ _ _
    clear hw2 X0 Q0 cN cT;go_wp2;go_ret;exact⟨ret_bool (ldB_pl HD.out (by rw[HE.out];rfl)).symm,u0.trans (hup.trans hup2)⟩
   by_cases hz:0≤iz
   ·refine wp_region_quiet_below (by kernel_rfl) (by kernel_rfl) ?_
    repeat (first|go_big_quiet_step ((first|(go_at_call 182;exact cN _ _)|(go_at_call 53;exact cT _ _)))|quiet_step ((first|(go_at_call 182;exact cN _ _)|(go_at_call 53;exact cT _ _))))
    refine wpQuiet_nil ?_
    intro w2 hw2
    obtain⟨⟨dq,osq⟩,hw2⟩:=hw2
    have hup2:Up wr w2:=by rw[hw2];exact below_regrown _ _ _
    clear hw2 X0 Q0 cN cT;go_wp2;go_ret;exact⟨ret_bool (ldB_pl HD.out (by rw[HE.out];simp;omega)).symm,u0.trans (hup.trans hup2)⟩
   have HG:=qh (show plQ l k d=true by rw[HE.out];simp;omega)
   refine wp_region_quiet_below (by kernel_rfl) (by kernel_rfl) ?_
   repeat (first|go_big_quiet_step ((first|(go_at_call 182;exact cN _ _)|(go_at_call 53;exact cT _ _)))|quiet_step ((first|(go_at_call 182;exact cN _ _)|(go_at_call 53;exact cT _ _))))
   refine wpQuiet_nil ?_
   intro w2 hw2
   obtain⟨⟨dq,osq⟩,hw2⟩:=hw2
   have hup2:Up wr w2:=by rw[hw2];exact below_regrown _ _ _
   clear hw2 X0 Q0 cN cT;go_wp2;go_roundw
   case rel=>exact⟨k+1,by omega,by go_num,allK_step HA.out HD.out HG.out,hup.trans hup2⟩
   case measure=>simp[intOf];omega
  ·have HPS:Hid (∀j d,j<l.length→l[j]?=some d→plQ l j d=true):=qh (fun j d hj hd=>HA.out j d (by omega) hd)
   clear HA;go_wp2;obtain⟨wo,hwo⟩:∃x,x=wr:=⟨_,rfl⟩
   rw[← hwo]at hup;have hupo:=hup
   have HWO:=qh hwo
   clear hwo hup x0 x1;go_loopw [4,5] (fun i u5 wr=>∃k:Nat,k≤ts.length∧i=.int .i64 k∧(∀j d,j<k→ts[j]?=some d→wyB l.length d=true)∧Up w0 wr) (fun i _ _=>ts.length-(intOf i).toNat)
   case atStart=>exact⟨0,Nat.zero_le _,rfl,fun j d h=>absurd h (by omega),by rw[← HWO.out];exact hupo⟩
   case round =>
    obtain⟨k2,hk2,rfl,ha,hup⟩:=hrel
    have HA:=qh ha
    clear ha;obtain⟨x0,x1⟩:=(hB.up hup).c2
    by_cases hlt2:k2<ts.length
    ·obtain⟨b,off,d,rfl,-,-,hd,q0,q1,q2⟩:=((hr2.up u0 (by exact HI.out)).up hup (Nat.le_trans HI.out u0.size)).i3 hlt2
     have HD:=qh hd
     clear hd;have uW:=hup.allocs (.cells #[.int .i64 d.a,.int .i64 d.b,.int .i64 d.d] 232)
     have v1:=Up.alloc wr (.cells #[.int .i64 d.a,.int .i64 d.b,.int .i64 d.d] 232)
     have hX:=Bx.new wr #[.int .i64 d.a,.int .i64 d.b,.int .i64 d.d] 232
     obtain⟨b1,hb1⟩:∃x,x=inB d.a 0 (l.length-1):=⟨_,rfl⟩
     obtain⟨b2,hb2⟩:∃x,x=inB d.b 0 (l.length-1):=⟨_,rfl⟩
     obtain⟨b4,hb4⟩:∃x,x=inB d.d 1 60:=⟨_,rfl⟩
     have c1:=fun wx=>l14Place_any ⟨A,c,l⟩ ⟨some ⟨b,off,none⟩,ct,ts⟩ d.a wx hn
     have c2:=fun wx=>l14Place_any ⟨A,c,l⟩ ⟨some ⟨b,off,none⟩,ct,ts⟩ d.b wx hn
     have c4:=fun wx=>l01In_any d.d 1 60 wx
     simp only[← hb1]at c1
     simp only[← hb2]at c2
     simp only[← hb4]at c4
     have HE:=qh (show wyB l.length d=(b1 && (b2 && ((d.a != d.b) && b4))) by unfold wyB;rw[hb1,hb2,hb4])
     clear hb1 hb2 hb4;have hB2:=(hB.up hup).up v1
     obtain⟨x0,x1⟩:=hB2.c2
     rcases b1 with _|_
     ·go_wp2_with first|(go_at_call 261;(first|(with_reducible refine(c1 _).mono ?_)|(with_reducible refine(c2 _).mono ?_));rintro e w1 ⟨rfl,v⟩;replace uW:=uW.trans v;replace hB2:=hB2.up v;replace hX:=hX.up v;clear v;obtain⟨x0,x1⟩:=hB2.c2;obtain⟨y0,y1,y2⟩:=hX.c3)|(go_at_call 49;refine(c4 _).mono ?_;rintro e w1 ⟨rfl,rfl⟩)
      go_ret;exact⟨ret_bool (ldB_ws HD.out (by rw[HE.out];rfl)).symm,u0.trans uW⟩
     rcases b2 with _|_
     ·go_wp2_with first|(go_at_call 261;(first|(with_reducible refine(c1 _).mono ?_)|(with_reducible refine(c2 _).mono ?_));rintro e w1 ⟨rfl,v⟩;replace uW:=uW.trans v;replace hB2:=hB2.up v;replace hX:=hX.up v;clear v;obtain⟨x0,x1⟩:=hB2.c2;obtain⟨y0,y1,y2⟩:=hX.c3)|(go_at_call 49;refine(c4 _).mono ?_;rintro e w1 ⟨rfl,rfl⟩)
      go_ret;exact⟨ret_bool (ldB_ws HD.out (by rw[HE.out];rfl)).symm,u0.trans uW⟩
     by_cases hab:d.a=d.b
     ·have hab2:(d.a==d.b)=true:=by simp[hab]
      have HAB:=qh hab
      clear hab;go_wp2_with first|(go_at_call 261;(first|(with_reducible refine(c1 _).mono ?_)|(with_reducible refine(c2 _).mono ?_));rintro e w1 ⟨rfl,v⟩;replace uW:=uW.trans v;replace hB2:=hB2.up v;replace hX:=hX.up v;clear v;obtain⟨x0,x1⟩:=hB2.c2;obtain⟨y0,y1,y2⟩:=hX.c3)|(go_at_call 49;refine(c4 _).mono ?_;rintro e w1 ⟨rfl,rfl⟩)
      go_ret;exact⟨ret_bool (ldB_ws HD.out (by rw[HE.out,HAB.out];simp)).symm,u0.trans uW⟩
     have hab2:(d.a==d.b)=false:=by simp[hab]
     have HAB:=qh (show(d.a != d.b)=true by simp[hab])
     clear hab;rcases b4 with _|_
     ·go_wp2_with first|(go_at_call 261;(first|(with_reducible refine(c1 _).mono ?_)|(with_reducible refine(c2 _).mono ?_));rintro e w1 ⟨rfl,v⟩;replace uW:=uW.trans v;replace hB2:=hB2.up v;replace hX:=hX.up v;clear v;obtain⟨x0,x1⟩:=hB2.c2;obtain⟨y0,y1,y2⟩:=hX.c3)|(go_at_call 49;refine(c4 _).mono ?_;rintro e w1 ⟨rfl,rfl⟩)
      go_ret;exact⟨ret_bool (ldB_ws HD.out (by rw[HE.out,HAB.out];rfl)).symm,u0.trans uW⟩
     go_wp2_with first|(go_at_call 261;(first|(with_reducible refine(c1 _).mono ?_)|(with_reducible refine(c2 _).mono ?_));rintro e w1 ⟨rfl,v⟩;replace uW:=uW.trans v;replace hB2:=hB2.up v;replace hX:=hX.up v;clear v;obtain⟨x0,x1⟩:=hB2.c2;obtain⟨y0,y1,y2⟩:=hX.c3)|(go_at_call 49;refine(c4 _).mono ?_;rintro e w1 ⟨rfl,rfl⟩)
     go_roundw
     case rel=>exact⟨k2+1,by omega,by go_num,allK_step (q:=fun _=>wyB l.length) HA.out HD.out (by rw[HE.out,HAB.out];rfl),uW⟩
     case measure=>simp[intOf];omega
    ·have HE:=qh (ldB_end (l:=l) (ws:=ts) HPS.out (fun j d hj hd=>HA.out j d (by omega) hd))
     clear HPS HA;by_cases g0:1≤l.length
     ·by_cases g1:l.length≤12
      ·go_wp2
       go_ret;exact⟨ret_bool (by rw[HE.out,decide_eq_true g0,decide_eq_true g1];exact decide_eq_decide.2 (by omega)),u0.trans hup⟩
      ·go_wp2
       go_ret;exact⟨ret_bool (by rw[HE.out,decide_eq_true g0,decide_eq_false g1];rfl),u0.trans hup⟩
     ·go_wp2
      go_ret;exact⟨ret_bool (by rw[HE.out,decide_eq_false g0];rfl),u0.trans hup⟩
theorem isDayU(n:Int)(w:World):Calls Tryz.prog 203 #[.int .i64 n] w fun e w'=>e=.returned (.bool (dayB n))∧Up w w' :=
 (isDay_any n w).mono fun e w' ⟨h,h2⟩=>⟨h,by rw[← h2];exact Up.refl _⟩
theorem rgB_alt(d:Nm):rgB d=(nameB d.nm 12 && (dayB d.fr && (dayB d.to_ && decide (d.fr≤d.to_)))):=rfl
theorem isReign_any(d:Nm)(w:World)(hd:d.ok) :
 Calls Tryz.prog 270 #[d.val] w fun e w'=>e=.returned (.bool (rgB d))∧Up w w':=by
 have hd':d.nm.size≤maxLen:=hd
 obtain⟨b1,hb1⟩:∃x,x=nameB d.nm 12:=⟨_,rfl⟩
 obtain⟨b2,hb2⟩:∃x,x=dayB d.fr:=⟨_,rfl⟩
 obtain⟨b3,hb3⟩:∃x,x=dayB d.to_:=⟨_,rfl⟩
 have u:=Up.alloc w (.cells #[.string d.nm,.int .i64 d.fr,.int .i64 d.to_] 233)
 have hB:=Bx.new w #[.string d.nm,.int .i64 d.fr,.int .i64 d.to_] 233
 have c1:=fun wx=>isSmall_any d.nm 12 wx hd'
 have c2:=fun wx=>isDay_any d.fr wx
 have c3:=fun wx=>isDay_any d.to_ wx
 simp only[← hb1]at c1
 simp only[← hb2]at c2
 simp only[← hb3]at c3
 have HE:=qh (show rgB d=(b1 && (b2 && (b3 && decide (d.fr≤d.to_)))) by rw[rgB_alt,hb1,hb2,hb3])
 clear hb1 hb2 hb3;cases b1<;>cases b2<;>cases b3<;>go_enter Tryz.func270,Tryz.ntmps270
 all_goals (go_wp2_with first|(go_at_call 196;refine(c1 _).mono ?_;rintro e w1 ⟨rfl,hup⟩;obtain⟨x0,x1,x2⟩:=(hB.up hup).c3)|(go_at_call 203;first|((with_reducible refine(c3 _).mono ?_);rintro e w' ⟨rfl,rfl⟩)|((with_reducible refine(c2 _).mono ?_);rintro e w' ⟨rfl,rfl⟩)))
 all_goals go_ret
 all_goals exact⟨ret_bool (by rw[HE.out];first|rfl|simp),u.trans hup⟩
theorem implAreReigns_any(s:Sl Nm)(lo hi:Nat)(w:World)(h:SrNm w lo hi s) :
 Calls Tryz.prog 236 #[.slice s.A s.l.length s.c] w fun e w'=>e=.returned (.bool (arB s.l))∧Up w w':=by
 obtain⟨A,c,l⟩:=s
 have hr:=h.rd
 have hhi:=h.hhi
 have hn:l.length≤2000000:=h.len
 have hok:=qh h.ok
 clear h;show Calls _ _ #[.slice A l.length c] _ fun e w'=>e=.returned (.bool (arB l))∧_
 go_enter Tryz.func236,Tryz.ntmps236
 go_wp2;go_loopw [3,4,7] (fun u3 u4 i wr=>∃k:Nat,k≤l.length∧i=.int .i64 k∧(∀j d,j<k→l[j]?=some d→arQ l j d=true)∧Up w wr) (fun _ _ i _=>l.length-(intOf i).toNat)
 case atStart=>exact⟨0,Nat.zero_le _,rfl,fun j d h=>absurd h (by omega),Up.refl _⟩
 case round =>
  obtain⟨k,hk,rfl,ha,hup⟩:=hrel
  have HA:=qh ha
  clear ha;by_cases hlt:k<l.length
  ·obtain⟨b,off,d,rfl,-,-,hd,q0,q1,q2⟩:=(hr.up hup hhi).nm hlt
   have HD:=qh hd
   clear hd;have v1:=Up.alloc wr (.cells #[.string d.nm,.int .i64 d.fr,.int .i64 d.to_] 233)
   have hX:=Bx.new wr #[.string d.nm,.int .i64 d.fr,.int .i64 d.to_] 233
   go_wp2_with fail
   generalize wr.alloc (.cells #[.string d.nm,.int .i64 d.fr,.int .i64 d.to_] 233)=W1 at *
   obtain⟨y0,y1,y2⟩:=hX.c3
   have Y0:=cell_regrown y0
   have Y1:=cell_regrown y1
   have Y2:=cell_regrown y2
   clear y0 y1 y2;obtain⟨bb,hbb⟩:∃x,x=rgB d:=⟨_,rfl⟩
   have cC:∀dd os,Calls Tryz.prog 270 #[d.val] (grow (redrawn W1 dd) os) fun e w''=>e=.returned (.bool bb)∧∃p:Regrown,w''=grow (redrawn W1 p.d) p.os :=
    fun dd os=>by rw[hbb];exact Calls.regrown_of (isReign_any d _ (hok.out d (List.mem_of_getElem? HD.out)))
   have HQ:=qh hbb.symm
   clear hbb;rcases bb with _|_
   ·refine wp_region_quiet_below (by kernel_rfl) (by kernel_rfl) ?_
    repeat (first|go_big_quiet_step ((first|(go_at_call 270;exact cC _ _)))|quiet_step ((first|(go_at_call 270;exact cC _ _))))
    refine wpQuiet_nil ?_
    intro w2 hw2
    obtain⟨⟨dq,osq⟩,hw2⟩:=hw2
    have hup2:Up W1 w2:=by rw[hw2];exact below_regrown _ _ _
    clear hw2 Y0 Y1 Y2 cC;go_wp2;go_ret;exact⟨ret_bool (arB_no HD.out (by unfold arQ;rw[HQ.out];rfl)).symm,hup.trans (v1.trans hup2)⟩
   rcases Nat.eq_zero_or_pos k with hk0|hk0
   ·have hgt:¬ 0<k:=by omega
    have HK0:=qh hk0
    clear hk0;refine wp_region_quiet_below (by kernel_rfl) (by kernel_rfl) ?_
    repeat (first|go_big_quiet_step ((first|(go_at_call 270;exact cC _ _)))|quiet_step ((first|(go_at_call 270;exact cC _ _))))
    refine wpQuiet_nil ?_
    intro w2 hw2
    obtain⟨⟨dq,osq⟩,hw2⟩:=hw2
    have hup2:Up W1 w2:=by rw[hw2];exact below_regrown _ _ _
    clear hw2 Y0 Y1 Y2 cC;go_wp2;go_roundw
    case rel=>exact⟨k+1,by omega,by go_num,allK_step HA.out HD.out (by unfold arQ;rw[HQ.out,HK0.out];rfl),hup.trans (v1.trans hup2)⟩
    case measure=>simp[intOf];omega
   obtain⟨q,hkq⟩:∃q,k=q+1:=⟨k-1,by omega⟩
   have hql:q<l.length:=by omega
   have hwr:IntKind.i64.wrap ((k:Int)-1)=(q:Int):=by rw[IntWalk.i64_in _ (by omega)];omega
   obtain⟨b',off',d',hbo,-,-,hd',p0,p1,p2⟩:=(hr.up (hup.trans v1) hhi).nm hql
   cases hbo;have HD':=qh hd'
   have HKQ:=qh hkq
   have P1:=cell_regrown p1
   clear hd' hkq p0 p1 p2;refine wp_region_quiet_below (by kernel_rfl) (by kernel_rfl) ?_
   repeat (first|go_big_quiet_step ((first|(go_at_call 270;exact cC _ _)))|quiet_step ((first|(go_at_call 270;exact cC _ _))))
   refine wpQuiet_nil ?_
   intro w2 hw2
   obtain⟨⟨dq,osq⟩,hw2⟩:=hw2
   have hup2:Up W1 w2:=by rw[hw2];exact below_regrown _ _ _
   clear hw2 Y0 Y1 Y2 P1 cC;go_wp2
   ·have h1:d.fr<d'.fr:=by assumption
    go_ret;exact⟨ret_bool (arB_no HD.out (by unfold arQ;rw[HQ.out,HKQ.out,pv_s HD'.out];simp;omega)).symm,hup.trans (v1.trans hup2)⟩
   ·have h1:¬ d.fr<d'.fr:=by omega
    go_roundw
    case rel=>exact⟨k+1,by omega,by go_num,allK_step HA.out HD.out (by unfold arQ;rw[HQ.out,HKQ.out,pv_s HD'.out];simp;omega),hup.trans (v1.trans hup2)⟩
    case measure=>simp[intOf];omega
  ·have HE:=qh (arB_end (l:=l) (fun j d hj hd=>HA.out j d (by omega) hd))
   go_wp2;go_ret;exact⟨ret_bool (by rw[HE.out];exact decide_eq_decide.2 (by omega)),hup⟩
theorem implIsChancery_any(s:Sl Nm)(fr to_:Int)(lo hi:Nat)(w:World)(h:SrNm w lo hi s) :
 Calls Tryz.prog 192 #[.agg #[.slice s.A s.l.length s.c,.int .i64 fr,.int .i64 to_]] w fun e w'=>e=.returned (.bool (chB s.l fr to_))∧Up w w':=by
 obtain⟨b1,hb1⟩:∃x,x=arB s.l:=⟨_,rfl⟩
 obtain⟨b2,hb2⟩:∃x,x=dayB fr:=⟨_,rfl⟩
 obtain⟨b3,hb3⟩:∃x,x=dayB to_:=⟨_,rfl⟩
 have u:=Up.alloc w (.cells #[.slice s.A s.l.length s.c,.int .i64 fr,.int .i64 to_] 48)
 have hB:=Bx.new w #[.slice s.A s.l.length s.c,.int .i64 fr,.int .i64 to_] 48
 have c1:=qh (implAreReigns_any s lo hi _ (h.up u))
 have c2:=fun wx=>isDay_any fr wx
 have c3:=fun wx=>isDay_any to_ wx
 rw[← hb1]at c1;simp only[← hb2]at c2
 simp only[← hb3]at c3
 have HE:=qh (show chB s.l fr to_=(b1 && (b2 && (b3 && (decide (fr≤to_) && decide (to_-fr≤20000))))) by unfold chB;rw[hb1,hb2,hb3])
 have HB2:=qh hb2
 have HB3:=qh hb3
 clear hb1 hb2 hb3;have hrange:b2=true→0≤fr∧fr≤730499:=fun e=>by have:=HB2.out;rw[e]at this;exact inB_iff.1 this.symm
 have hrange3:b3=true→0≤to_∧to_≤730499:=fun e=>by have:=HB3.out;rw[e]at this;exact inB_iff.1 this.symm
 cases b1<;>cases b2<;>cases b3<;>go_enter Tryz.func192,Tryz.ntmps192
 all_goals (first|(have hrange:=hrange rfl;clear HB2)|clear hrange HB2)
 all_goals (first|(have hrange3:=hrange3 rfl;clear HB3)|clear hrange3 HB3)
 all_goals (go_wp2_with first|(go_at_call 236;refine c1.out.mono ?_;rintro e w1 ⟨rfl,hup⟩;obtain⟨x0,x1,x2⟩:=(hB.up hup).c3)|(go_at_call 203;first|((with_reducible refine(c3 _).mono ?_);rintro e w' ⟨rfl,rfl⟩)|((with_reducible refine(c2 _).mono ?_);rintro e w' ⟨rfl,rfl⟩)))
 all_goals go_ret
 all_goals exact⟨ret_bool (by rw[HE.out];first|rfl|(simp;done)|(simp_all;done)|(simp;omega)),u.trans (by assumption)⟩
theorem pixClosure_any(d:Nm)(nm:ByteArray)(b:Nat)(w:World)(hc:w.cell? ⟨b,0,none⟩=some (.string nm)) :
 Calls Tryz.prog 218 #[d.val,.pointer (some ⟨b,0,none⟩)] w fun e w'=>e=.returned (.bool (d.nm.toList==nm.toList))∧Up w w':=by
 have c1:=(Up.alloc w (.cells #[.string d.nm,.int .i64 d.fr,.int .i64 d.to_] 229)).cell hc
 go_enter Tryz.func218,Tryz.ntmps218
 go_wp2;go_ret;exact⟨rfl,Up.alloc _ _⟩
theorem personIndex_any(s:Sl Nm)(t:Sl Tm)(nm:ByteArray)(lo hi:Nat)(w:World)(h:SrNm w lo hi s) :
 Calls Tryz.prog 167 #[.agg #[.slice s.A s.l.length s.c,.slice t.A t.l.length t.c],.string nm] w fun e w'=>e=.returned (.int .i64 (pix s.l nm))∧Up w w':=by
 have u:Up w ((w.alloc (.cells #[.slice s.A s.l.length s.c,.slice t.A t.l.length t.c] 52)).alloc (.cells #[.string nm] 9)):=(Up.alloc _ _).allocs _
 have hc:((w.alloc (.cells #[.slice s.A s.l.length s.c,.slice t.A t.l.length t.c] 52)).alloc (.cells #[.string nm] 9)).cell? ⟨w.heap.size+1,0,none⟩=some (.string nm):=by go_simp
 have HF:=qh (indexFuncNm_any s.A s.l s.c lo hi 218 #[.pointer (some ⟨w.heap.size+1,0,none⟩)] (fun x=>x.nm.toList==nm.toList) _ (h.up u).rd (h.up u).hhi h.len (fun _ _=>by kernel_rfl) (fun d _ w1 hu=>pixClosure_any d nm _ w1 (hu.cell hc)))
 go_enter Tryz.func167,Tryz.ntmps167
 go_wp2_with (go_at_call 217;refine HF.out.mono ?_;rintro e w' ⟨rfl,hup⟩)
 go_ret;exact⟨rfl,u.trans hup⟩
theorem tm_in{l:List Nm}{t:Tm}{m:Nat}{x:Nm}(_hd:l[m]?=some x)(hx:rgB x=true)(h:tmB l t=(nameB t.of_ 12 && (spanB t.fr t.to_ && (decide (x.fr≤t.fr) && decide (t.to_≤x.to_))))) :
 tmB l t=(nameB t.of_ 12 && (decide (t.fr≤t.to_) && (decide (x.fr≤t.fr) && decide (t.to_≤x.to_)))):=by
 rw[h];simp only[rgB_alt,Bool.and_eq_true]at hx
 have h1:=hx.2.1
 have h2:=hx.2.2.1
 unfold dayB at h1 h2
 rw[inB_iff]at h1 h2;congr 1
 unfold spanB dayB
 by_cases a:t.fr≤t.to_<;>by_cases b:x.fr≤t.fr<;>by_cases c:t.to_≤x.to_<;>simp[a,b,c,inB]<;>omega
theorem implIsPeople_any(s:Sl Nm)(t:Sl Tm)(lo hi:Nat)(w:World)(h:SrNm w lo hi s)(h2:SrTm w lo hi t) :
 Calls Tryz.prog 193 #[.agg #[.slice s.A s.l.length s.c,.slice t.A t.l.length t.c]] w fun e w'=>e=.returned (.bool (ppB s.l t.l))∧Up w w':=by
 obtain⟨A,c,l⟩:=s
 obtain⟨B,ct,ts⟩:=t
 have hn:l.length≤2000000:=h.len
 have hn2:ts.length≤2000000:=h2.len
 have hok:=qh h.ok
 have hok2:=qh h2.ok
 have hr:=h.rd
 have hhi:=h.hhi
 have hr2:=h2.rd
 have HS:=qh h
 clear h h2;show Calls _ _ #[.agg #[.slice A l.length c,.slice B ts.length ct]] _ fun e w'=>e=.returned (.bool (ppB l ts))∧_
 have u0:=Up.alloc w (.cells #[.slice A l.length c,.slice B ts.length ct] 52)
 have hB:=Bx.new w #[.slice A l.length c,.slice B ts.length ct] 52
 have HE0:=qh (show ppB l ts=((decide (l.length≤40) && decide (ts.length≤60)) && (allK l (psQ l) && ts.all (tmB l))) from rfl)
 by_cases g1:l.length≤40
 rotate_left
 ·have g1':40<l.length:=by omega
  go_enter Tryz.func193,Tryz.ntmps193
  go_wp2
  all_goals (go_ret;exact⟨ret_bool (by rw[HE0.out,decide_eq_false g1];rfl),by first|exact u0|(refine u0.trans ?_;assumption)⟩)
 by_cases g2:ts.length≤60
 rotate_left
 ·have g1':¬ 40<l.length:=by omega
  have g2':60<ts.length:=by omega
  go_enter Tryz.func193,Tryz.ntmps193
  go_wp2
  all_goals (go_ret;exact⟨ret_bool (by rw[HE0.out,decide_eq_false g2];simp),by first|exact u0|(refine u0.trans ?_;assumption)⟩)
 have HG:=qh (show(decide (l.length≤40) && decide (ts.length≤60))=true by rw[decide_eq_true g1,decide_eq_true g2];rfl)
 have g1':¬ 40<l.length:=by omega
 have g2':¬ 60<ts.length:=by omega
 clear g1 g2 HE0;go_enter Tryz.func193,Tryz.ntmps193
 go_wp2;generalize w.alloc (.cells #[.slice A l.length c,.slice B ts.length ct] 52)=w0 at *
 go_loopw [3,4,21] (fun u3 u4 i wr=>∃k:Nat,k≤l.length∧i=.int .i64 k∧(∀j d,j<k→l[j]?=some d→psQ l j d=true)∧Up w0 wr) (fun _ _ i _=>l.length-(intOf i).toNat)
 case atStart=>exact⟨0,Nat.zero_le _,rfl,fun j d h=>absurd h (by omega),Up.refl _⟩
 case round =>
  obtain⟨k,hk,rfl,ha,hup⟩:=hrel
  have HA:=qh ha
  clear ha;obtain⟨x0,x1⟩:=(hB.up hup).c2
  by_cases hlt:k<l.length
  ·obtain⟨b,off,d,rfl,-,-,hd,q0,q1,q2⟩:=((hr.up u0 hhi).up hup (Nat.le_trans hhi u0.size)).nm hlt
   have HD:=qh hd
   clear hd;have v1:=Up.alloc wr (.cells #[.string d.nm,.int .i64 d.fr,.int .i64 d.to_] 229)
   have hX:=Bx.new wr #[.string d.nm,.int .i64 d.fr,.int .i64 d.to_] 229
   go_wp2_with fail
   generalize wr.alloc (.cells #[.string d.nm,.int .i64 d.fr,.int .i64 d.to_] 229)=W1 at *
   obtain⟨x0,x1⟩:=(hB.up (hup.trans v1)).c2
   obtain⟨y0,y1,y2⟩:=hX.c3
   have X0:=cell_regrown x0
   have Y0:=cell_regrown y0
   have Y1:=cell_regrown y1
   have Y2:=cell_regrown y2
   obtain⟨b1,hb1⟩:∃x,x=nameB d.nm 12:=⟨_,rfl⟩
   obtain⟨b2,hb2⟩:∃x,x=dayB d.fr:=⟨_,rfl⟩
   obtain⟨b3,hb3⟩:∃x,x=dayB d.to_:=⟨_,rfl⟩
   have cN:∀dd os,Calls Tryz.prog 196 #[.string d.nm,.int .i64 12] (grow (redrawn W1 dd) os) fun e w''=>e=.returned (.bool (nameB d.nm 12))∧∃p:Regrown,w''=grow (redrawn W1 p.d) p.os :=
    fun dd os=>Calls.regrown_of (isSmall_any d.nm 12 _ (hok.out d (List.mem_of_getElem? HD.out)))
   have cF:∀dd os,Calls Tryz.prog 203 #[.int .i64 d.fr] (grow (redrawn W1 dd) os) fun e w''=>e=.returned (.bool (dayB d.fr))∧∃p:Regrown,w''=grow (redrawn W1 p.d) p.os :=
    fun dd os=>Calls.regrown_of (isDayU d.fr _)
   have cT:∀dd os,Calls Tryz.prog 203 #[.int .i64 d.to_] (grow (redrawn W1 dd) os) fun e w''=>e=.returned (.bool (dayB d.to_))∧∃p:Regrown,w''=grow (redrawn W1 p.d) p.os :=
    fun dd os=>Calls.regrown_of (isDayU d.to_ _)
   rw[← hb1]at cN;rw[← hb2]at cF;rw[← hb3]at cT;have HE:=qh (show rgB d=(b1 && (b2 && (b3 && decide (d.fr≤d.to_)))) by rw[rgB_alt,hb1,hb2,hb3])
   clear hb1 hb2 hb3 x0 x1 y0 y1 y2;rcases b1 with _|_
   ·refine wp_region_quiet_below (by kernel_rfl) (by kernel_rfl) ?_
    repeat (first|go_big_quiet_step ((first|(go_at_call 196;exact cN _ _)|(go_at_call 203;first|with_reducible exact cF _ _|with_reducible exact cT _ _)))|quiet_step ((first|(go_at_call 196;exact cN _ _)|(go_at_call 203;first|with_reducible exact cF _ _|with_reducible exact cT _ _))))
    refine wpQuiet_nil ?_
    intro w2 hw2
    obtain⟨⟨dq,osq⟩,hw2⟩:=hw2
    have hup2:Up W1 w2:=by rw[hw2];exact below_regrown _ _ _
    clear hw2 X0 Y0 Y1 Y2 cN cF cT;go_wp2;go_ret;exact⟨ret_bool (ppB_ps HD.out (by rw[ps_eq,HE.out];rfl)).symm,u0.trans (hup.trans (v1.trans hup2))⟩
   rcases b2 with _|_
   ·refine wp_region_quiet_below (by kernel_rfl) (by kernel_rfl) ?_
    repeat (first|go_big_quiet_step ((first|(go_at_call 196;exact cN _ _)|(go_at_call 203;first|with_reducible exact cF _ _|with_reducible exact cT _ _)))|quiet_step ((first|(go_at_call 196;exact cN _ _)|(go_at_call 203;first|with_reducible exact cF _ _|with_reducible exact cT _ _))))
    refine wpQuiet_nil ?_
    intro w2 hw2
    obtain⟨⟨dq,osq⟩,hw2⟩:=hw2
    have hup2:Up W1 w2:=by rw[hw2];exact below_regrown _ _ _
    clear hw2 X0 Y0 Y1 Y2 cN cF cT;go_wp2;go_ret;exact⟨ret_bool (ppB_ps HD.out (by rw[ps_eq,HE.out];rfl)).symm,u0.trans (hup.trans (v1.trans hup2))⟩
   rcases b3 with _|_
   ·refine wp_region_quiet_below (by kernel_rfl) (by kernel_rfl) ?_
    repeat (first|go_big_quiet_step ((first|(go_at_call 196;exact cN _ _)|(go_at_call 203;first|with_reducible exact cF _ _|with_reducible exact cT _ _)))|quiet_step ((first|(go_at_call 196;exact cN _ _)|(go_at_call 203;first|with_reducible exact cF _ _|with_reducible exact cT _ _))))
    refine wpQuiet_nil ?_
    intro w2 hw2
    obtain⟨⟨dq,osq⟩,hw2⟩:=hw2
    have hup2:Up W1 w2:=by rw[hw2];exact below_regrown _ _ _
    clear hw2 X0 Y0 Y1 Y2 cN cF cT;go_wp2;go_ret;exact⟨ret_bool (ppB_ps HD.out (by rw[ps_eq,HE.out];rfl)).symm,u0.trans (hup.trans (v1.trans hup2))⟩
   by_cases hft:d.to_<d.fr
   ·have HFT:=qh (show decide (d.fr≤d.to_)=false by simp;omega)
    refine wp_region_quiet_below (by kernel_rfl) (by kernel_rfl) ?_
    repeat (first|go_big_quiet_step ((first|(go_at_call 196;exact cN _ _)|(go_at_call 203;first|with_reducible exact cF _ _|with_reducible exact cT _ _)))|quiet_step ((first|(go_at_call 196;exact cN _ _)|(go_at_call 203;first|with_reducible exact cF _ _|with_reducible exact cT _ _))))
    refine wpQuiet_nil ?_
    intro w2 hw2
    obtain⟨⟨dq,osq⟩,hw2⟩:=hw2
    have hup2:Up W1 w2:=by rw[hw2];exact below_regrown _ _ _
    clear hw2 X0 Y0 Y1 Y2 cN cF cT;go_wp2;go_ret;exact⟨ret_bool (ppB_ps HD.out (by rw[ps_eq,HE.out,HFT.out];rfl)).symm,u0.trans (hup.trans (v1.trans hup2))⟩
   have HFT:=qh (show decide (d.fr≤d.to_)=true by simp;omega)
   rcases Nat.eq_zero_or_pos k with hk0|hk0
   ·have hgt:¬ 0<k:=by omega
    have HK0:=qh hk0
    clear hk0;refine wp_region_quiet_below (by kernel_rfl) (by kernel_rfl) ?_
    repeat (first|go_big_quiet_step ((first|(go_at_call 196;exact cN _ _)|(go_at_call 203;first|with_reducible exact cF _ _|with_reducible exact cT _ _)))|quiet_step ((first|(go_at_call 196;exact cN _ _)|(go_at_call 203;first|with_reducible exact cF _ _|with_reducible exact cT _ _))))
    refine wpQuiet_nil ?_
    intro w2 hw2
    obtain⟨⟨dq,osq⟩,hw2⟩:=hw2
    have hup2:Up W1 w2:=by rw[hw2];exact below_regrown _ _ _
    clear hw2 X0 Y0 Y1 Y2 cN cF cT;go_wp2;go_roundw
    case rel=>exact⟨k+1,by omega,by go_num,allK_step HA.out HD.out (by rw[ps_eq,HE.out,HFT.out,HK0.out];rfl),hup.trans (v1.trans hup2)⟩
    case measure=>simp[intOf];omega
   obtain⟨q,hkq⟩:∃q,k=q+1:=⟨k-1,by omega⟩
   have hql:q<l.length:=by omega
   have hwr:IntKind.i64.wrap ((k:Int)-1)=(q:Int):=by rw[IntWalk.i64_in _ (by omega)];omega
   obtain⟨b',off',d',hbo,-,-,hd',p0,p1,p2⟩:=((hr.up u0 hhi).up (hup.trans v1) (Nat.le_trans hhi u0.size)).nm hql
   cases hbo;have HD':=qh hd'
   have HKQ:=qh hkq
   have P0:=cell_regrown p0
   clear hd' hkq p0 p1 p2;obtain⟨rr,hrr⟩:∃x,x=(Op.bytesLess d.nm.toList d'.nm.toList || d.nm.toList==d'.nm.toList):=⟨_,rfl⟩
   have HRR:=qh hrr
   rcases rr with _|_
   ·have HT:=qh (ps_good HRR.out.symm)
    have hz1:Op.bytesLess d.nm.toList d'.nm.toList=false:=(Bool.or_eq_false_iff.1 hrr.symm).1
    have hz2:(d.nm.toList==d'.nm.toList)=false:=(Bool.or_eq_false_iff.1 hrr.symm).2
    clear hrr;refine wp_region_quiet_below (by kernel_rfl) (by kernel_rfl) ?_
    repeat (first|go_big_quiet_step ((first|(go_at_call 196;exact cN _ _)|(go_at_call 203;first|with_reducible exact cF _ _|with_reducible exact cT _ _)))|quiet_step ((first|(go_at_call 196;exact cN _ _)|(go_at_call 203;first|with_reducible exact cF _ _|with_reducible exact cT _ _))))
    refine wpQuiet_nil ?_
    intro w2 hw2
    obtain⟨⟨dq,osq⟩,hw2⟩:=hw2
    have hup2:Up W1 w2:=by rw[hw2];exact below_regrown _ _ _
    clear hw2 X0 Y0 Y1 Y2 cN cF cT P0;go_wp2;go_roundw
    case rel=>exact⟨k+1,by omega,by go_num,allK_step HA.out HD.out (by rw[ps_eq,HE.out,HFT.out,HKQ.out,pv_s HD'.out,HT.out];rfl),hup.trans (v1.trans hup2)⟩
    case measure=>simp[intOf];omega
   ·have HT:=qh (ps_bad HRR.out.symm)
    rcases Bool.or_eq_true _ _ ▸ hrr.symm with hz|hz
    all_goals clear hrr
    all_goals (
     refine wp_region_quiet_below (by kernel_rfl) (by kernel_rfl) ?_
     repeat (first|go_big_quiet_step ((first|(go_at_call 196;exact cN _ _)|(go_at_call 203;first|with_reducible exact cF _ _|with_reducible exact cT _ _)))|quiet_step ((first|(go_at_call 196;exact cN _ _)|(go_at_call 203;first|with_reducible exact cF _ _|with_reducible exact cT _ _))))
     refine wpQuiet_nil ?_
     intro w2 hw2
     obtain⟨⟨dq,osq⟩,hw2⟩:=hw2
     have hup2:Up W1 w2:=by rw[hw2];exact below_regrown _ _ _
     clear hw2 X0 Y0 Y1 Y2 cN cF cT P0;go_wp2;go_ret;exact⟨ret_bool (ppB_ps HD.out (by rw[ps_eq,HE.out,HFT.out,HKQ.out,pv_s HD'.out,HT.out];rfl)).symm,u0.trans (hup.trans (v1.trans hup2))⟩)
  ·have HPS:Hid (∀j d,j<l.length→l[j]?=some d→psQ l j d=true):=qh (fun j d hj hd=>HA.out j d (by omega) hd)
   clear HA;go_wp2;obtain⟨wo,hwo⟩:∃x,x=wr:=⟨_,rfl⟩
   rw[← hwo]at hup;have hupo:=hup
   have HWO:=qh hwo
   clear hwo hup x0 x1;go_loopw [6,7,69] (fun u6 u7 i wr=>∃k:Nat,k≤ts.length∧i=.int .i64 k∧(∀j d,j<k→ts[j]?=some d→tmB l d=true)∧Up w0 wr) (fun _ _ i _=>ts.length-(intOf i).toNat)
   case atStart=>exact⟨0,Nat.zero_le _,rfl,fun j d h=>absurd h (by omega),by rw[← HWO.out];exact hupo⟩
   case round =>
    obtain⟨k2,hk2,rfl,ha,hup⟩:=hrel
    have HA:=qh ha
    clear ha;obtain⟨x0,x1⟩:=(hB.up hup).c2
    by_cases hlt2:k2<ts.length
    ·obtain⟨b,off,d,rfl,-,-,hd,q0,q1,q2,q3⟩:=((hr2.up u0 hhi).up hup (Nat.le_trans hhi u0.size)).tm hlt2
     have HD:=qh hd
     clear hd;have v1:=Up.alloc wr (.cells #[.string d.of_,.string d.pe,.int .i64 d.fr,.int .i64 d.to_] 236)
     have hX:=Bx.new wr #[.string d.of_,.string d.pe,.int .i64 d.fr,.int .i64 d.to_] 236
     have hpix:=personIndex_any ⟨A,c,l⟩ ⟨some ⟨b,off,none⟩,ct,ts⟩ d.pe lo hi (wr.alloc (.cells #[.string d.of_,.string d.pe,.int .i64 d.fr,.int .i64 d.to_] 236)) (HS.out.up (u0.trans (hup.trans v1)))
     obtain⟨pz,hpz⟩:∃x,x=pix l d.pe:=⟨_,rfl⟩
     have HPX:Hid (Calls Tryz.prog 167 #[.agg #[.slice A l.length c,.slice (some ⟨b,off,none⟩) ts.length ct],.string d.pe] (wr.alloc (.cells #[.string d.of_,.string d.pe,.int .i64 d.fr,.int .i64 d.to_] 236)) fun e w'=>e=.returned (.int .i64 pz)∧Up (wr.alloc (.cells #[.string d.of_,.string d.pe,.int .i64 d.fr,.int .i64 d.to_] 236)) w'):=qh (by rw[hpz];exact hpix)
     clear hpix;have HPZ:=qh hpz
     clear hpz;obtain⟨x0,x1⟩:=(hB.up (hup.trans v1)).c2
     obtain⟨y0,y1,y2,y3⟩:=hX.c4
     go_wp2_with (go_at_call 167;refine HPX.out.mono ?_;rintro e W1 ⟨rfl,v2⟩)
     clear HPX x0 x1 y0 y1 y2 y3;have uW:=hup.trans (v1.trans v2)
     obtain⟨x0,x1⟩:=(hB.up uW).c2
     obtain⟨y0,y1,y2,y3⟩:=(hX.up v2).c4
     have X0:=cell_regrown x0
     have Y0:=cell_regrown y0
     have Y2:=cell_regrown y2
     have Y3:=cell_regrown y3
     obtain⟨b1,hb1⟩:∃x,x=nameB d.of_ 12:=⟨_,rfl⟩
     have cN:∀dd os,Calls Tryz.prog 196 #[.string d.of_,.int .i64 12] (grow (redrawn W1 dd) os) fun e w''=>e=.returned (.bool (nameB d.of_ 12))∧∃p:Regrown,w''=grow (redrawn W1 p.d) p.os :=
      fun dd os=>Calls.regrown_of (isSmall_any d.of_ 12 _ (hok2.out d (List.mem_of_getElem? HD.out)).1)
     rw[← hb1]at cN;have HB1:=qh hb1
     clear hb1 x0 x1 y0 y1 y2 y3;rcases ixB_or l (fun x=>x.nm.toList==d.pe.toList) with⟨hz,hno⟩|⟨m,d',hz,hd',hpe,hfst⟩
     ·have hpn:pz=-1:=HPZ.out.trans hz
      subst hpn;have HT:=qh (tm_no (t:=d) hno)
      clear hz hno;refine wp_region_quiet_below (by kernel_rfl) (by kernel_rfl) ?_
      repeat (first|go_big_quiet_step ((first|(go_at_call 196;exact cN _ _)))|quiet_step ((first|(go_at_call 196;exact cN _ _))))
      refine wpQuiet_nil ?_
      intro w2 hw2
      obtain⟨⟨dq,osq⟩,hw2⟩:=hw2
      have hup2:Up W1 w2:=by rw[hw2];exact below_regrown _ _ _
      clear hw2 X0 Y0 Y2 Y3 cN;go_wp2;go_ret;exact⟨ret_bool (ppB_ts HD.out HT.out).symm,u0.trans (uW.trans hup2)⟩
     ·have hpn:pz=(m:Int):=HPZ.out.trans hz
      subst hpn;have hml:=(List.getElem?_eq_some_iff.1 hd').1
      have hrx:rgB d'=true:=by
       have:=HPS.out m d' hml hd'
       rw[ps_eq,Bool.and_eq_true]at this;exact this.1
      have HT:=qh (tm_in (t:=d) hd' hrx (tm_yes (t:=d) hd' hpe hfst))
      have R3:=(hr.up u0 hhi).up uW (Nat.le_trans hhi u0.size)
      obtain⟨b',off',d'',rfl,-,-,hd'',p0,p1,p2⟩:=R3.nm hml
      obtain rfl:d'=d'':=by rw[hd']at hd'';exact Option.some.inj hd''
      clear hz hd' hpe hfst hd'' R3 p0 hrx;have P1:=cell_regrown p1
      have P2:=cell_regrown p2
      clear p1 p2;have hm0:¬ (m:Int)<0:=by omega
      rcases b1 with _|_
      ·refine wp_region_quiet_below (by kernel_rfl) (by kernel_rfl) ?_
       repeat (first|go_big_quiet_step ((first|(go_at_call 196;exact cN _ _)))|quiet_step ((first|(go_at_call 196;exact cN _ _))))
       refine wpQuiet_nil ?_
       intro w2 hw2
       obtain⟨⟨dq,osq⟩,hw2⟩:=hw2
       have hup2:Up W1 w2:=by rw[hw2];exact below_regrown _ _ _
       clear hw2 X0 Y0 Y2 Y3 cN P1 P2;go_wp2;go_ret;exact⟨ret_bool (ppB_ts HD.out (by rw[HT.out,← HB1.out];rfl)).symm,u0.trans (uW.trans hup2)⟩
      by_cases h0:d.to_<d.fr
      ·refine wp_region_quiet_below (by kernel_rfl) (by kernel_rfl) ?_
       repeat (first|go_big_quiet_step ((first|(go_at_call 196;exact cN _ _)))|quiet_step ((first|(go_at_call 196;exact cN _ _))))
       refine wpQuiet_nil ?_
       intro w2 hw2
       obtain⟨⟨dq,osq⟩,hw2⟩:=hw2
       have hup2:Up W1 w2:=by rw[hw2];exact below_regrown _ _ _
       clear hw2 X0 Y0 Y2 Y3 cN P1 P2;go_wp2;go_ret;exact⟨ret_bool (ppB_ts HD.out (by rw[HT.out,← HB1.out];simp;omega)).symm,u0.trans (uW.trans hup2)⟩
      by_cases h1:d.fr<d'.fr
      ·refine wp_region_quiet_below (by kernel_rfl) (by kernel_rfl) ?_
       repeat (first|go_big_quiet_step ((first|(go_at_call 196;exact cN _ _)))|quiet_step ((first|(go_at_call 196;exact cN _ _))))
       refine wpQuiet_nil ?_
       intro w2 hw2
       obtain⟨⟨dq,osq⟩,hw2⟩:=hw2
       have hup2:Up W1 w2:=by rw[hw2];exact below_regrown _ _ _
       clear hw2 X0 Y0 Y2 Y3 cN P1 P2;go_wp2;go_ret;exact⟨ret_bool (ppB_ts HD.out (by rw[HT.out,← HB1.out];simp;omega)).symm,u0.trans (uW.trans hup2)⟩
      by_cases h3:d'.to_<d.to_
      ·refine wp_region_quiet_below (by kernel_rfl) (by kernel_rfl) ?_
       repeat (first|go_big_quiet_step ((first|(go_at_call 196;exact cN _ _)))|quiet_step ((first|(go_at_call 196;exact cN _ _))))
       refine wpQuiet_nil ?_
       intro w2 hw2
       obtain⟨⟨dq,osq⟩,hw2⟩:=hw2
       have hup2:Up W1 w2:=by rw[hw2];exact below_regrown _ _ _
       clear hw2 X0 Y0 Y2 Y3 cN P1 P2;go_wp2;go_ret;exact⟨ret_bool (ppB_ts HD.out (by rw[HT.out,← HB1.out];simp;omega)).symm,u0.trans (uW.trans hup2)⟩
      have HGG:=qh (show tmB l d=true by rw[HT.out,← HB1.out];simp;omega)
      refine wp_region_quiet_below (by kernel_rfl) (by kernel_rfl) ?_
      repeat (first|go_big_quiet_step ((first|(go_at_call 196;exact cN _ _)))|quiet_step ((first|(go_at_call 196;exact cN _ _))))
      refine wpQuiet_nil ?_
      intro w2 hw2
      obtain⟨⟨dq,osq⟩,hw2⟩:=hw2
      have hup2:Up W1 w2:=by rw[hw2];exact below_regrown _ _ _
      clear hw2 X0 Y0 Y2 Y3 cN P1 P2;go_wp2;go_roundw
      case rel=>exact⟨k2+1,by omega,by go_num,allK_step (q:=fun _=>tmB l) HA.out HD.out HGG.out,uW.trans hup2⟩
      case measure=>simp[intOf];omega
    ·have HE:=qh (ppB_end (l:=l) (ts:=ts) HPS.out (fun j d hj hd=>HA.out j d (by omega) hd))
     clear HPS HA;go_wp2;go_ret;exact⟨ret_bool (by rw[HE.out,HG.out]),u0.trans hup⟩
theorem beq_sym{a b:List UInt8}{r:Bool}(h:(a==b)=r):(b==a)=r:=by rw[← h];exact Bool.beq_comm
theorem txIndex_any(A:Option Addr)(l:List ByteArray)(c lo hi:Nat)(s:ByteArray)(w:World)(hr:RdT w lo hi A l)(hn:l.length≤2000000) :
 Calls Tryz.prog 117 #[.slice A l.length c,.string s] w fun e w'=>e=.returned (.int .i64 (txIx l s))∧w=w':=by
 unfold txIx
 go_enter Tryz.func117,Tryz.ntmps117
 go_wp2;go_loop [5,8] (fun _ i=>∃k:Nat,k≤l.length∧i=.int .i64 k∧∀(j:Nat) y,j<k→l[j]?=some y→(y.toList==s.toList)=false) (fun _ i=>l.length-(intOf i).toNat)
 case atStart=>exact⟨0,Nat.zero_le _,rfl,fun j y h=>absurd h (by omega)⟩
 case round =>
  obtain⟨k,hk,rfl,ha⟩:=hrel
  have HA:=qh ha
  clear ha;by_cases hlt:k<l.length
  ·obtain⟨b,off,z,rfl,-,-,hz,q0⟩:=hr.txt hlt
   have HZ:=qh hz
   clear hz;go_wp2
   ·have h1:(s.toList==z.toList)=true:=by assumption
    go_ret;exact⟨ret_int (ixB_yes (p:=fun x=>x.toList==s.toList) HZ.out (beq_sym h1) HA.out).symm,rfl⟩
   ·have h1:(s.toList==z.toList)=false:=by assumption
    have H1:=qh h1
    go_round
    case rel=>exact⟨k+1,by omega,by go_num,fun j y hj hy=>by
     rcases Nat.lt_or_ge j k with h|h
     ·exact HA.out j y h hy
     ·obtain rfl:j=k:=by omega
      rw[HZ.out]at hy;cases hy
      exact beq_sym H1.out⟩
    case measure=>simp[intOf];omega
  ·go_wp2
   go_ret;exact⟨ret_int (ixB_no (p:=fun x=>x.toList==s.toList) (fun j y hj hy=>HA.out j y (by omega) hy)).symm,rfl⟩
theorem txContains_any(A:Option Addr)(l:List ByteArray)(c lo hi:Nat)(s:ByteArray)(w:World)(hr:RdT w lo hi A l)(hn:l.length≤2000000) :
 Calls Tryz.prog 201 #[.slice A l.length c,.string s] w fun e w'=>e=.returned (.bool (decide (0≤txIx l s)))∧w=w':=by
 have HS:=qh (txIndex_any A l c lo hi s w hr hn)
 go_enter Tryz.func201,Tryz.ntmps201
 go_wp2_with (go_at_call 117;refine HS.out.mono ?_;rintro e w' ⟨rfl,rfl⟩)
 go_ret;exact⟨rfl,rfl⟩
theorem isPlace_any(s:Sl ByteArray)(t:Sl I3)(n:Int)(w:World)(hn:s.l.length≤2000000) :
 Calls Tryz.prog 273 #[.agg #[.slice s.A s.l.length s.c,.slice t.A t.l.length t.c],.int .i64 n] w fun e w'=>e=.returned (.bool (inB n 0 (s.l.length-1)))∧Up w w':=by
 go_enter Tryz.func273,Tryz.ntmps273
 go_wp2_with (go_at_call 64;refine(within_any _ _ _ _).mono ?_;rintro e w' ⟨rfl,rfl⟩)
 go_ret;exact⟨rfl,Up.alloc _ _⟩
theorem landClosure_any(s:Sl ByteArray)(t:Sl I3)(d:I3)(b:Nat)(w:World)(hn:s.l.length≤2000000)(hc:Bx w b [.slice s.A s.l.length s.c,.slice t.A t.l.length t.c]) :
 Calls Tryz.prog 272 #[d.val,.pointer (some ⟨b,0,none⟩)] w fun e w'=>e=.returned (.bool (!wyB s.l.length d))∧Up w w':=by
 have uW:=Up.alloc w (.cells #[.int .i64 d.a,.int .i64 d.b,.int .i64 d.d] 232)
 have hX:=Bx.new w #[.int .i64 d.a,.int .i64 d.b,.int .i64 d.d] 232
 have hB2:=hc.up uW
 obtain⟨b1,hb1⟩:∃x,x=inB d.a 0 (s.l.length-1):=⟨_,rfl⟩
 obtain⟨b2,hb2⟩:∃x,x=inB d.b 0 (s.l.length-1):=⟨_,rfl⟩
 obtain⟨b4,hb4⟩:∃x,x=inB d.d 1 60:=⟨_,rfl⟩
 have c1:=fun wx=>isPlace_any s t d.a wx hn
 have c2:=fun wx=>isPlace_any s t d.b wx hn
 have c4:=fun wx=>within_any d.d 1 60 wx
 simp only[← hb1]at c1
 simp only[← hb2]at c2
 simp only[← hb4]at c4
 have HE:=qh (show wyB s.l.length d=(b1 && (b2 && ((d.a != d.b) && b4))) by unfold wyB;rw[hb1,hb2,hb4])
 clear hb1 hb2 hb4 hc;obtain⟨x0,x1⟩:=hB2.c2
 obtain⟨y0,y1,y2⟩:=hX.c3
 go_enter Tryz.func272,Tryz.ntmps272
 rcases b1 with _|_
 ·(go_wp2_with first|(go_at_call 273;(first|(with_reducible refine(c1 _).mono ?_)|(with_reducible refine(c2 _).mono ?_));rintro e w1 ⟨rfl,v⟩;replace uW:=uW.trans v;replace hB2:=hB2.up v;replace hX:=hX.up v;clear v;obtain⟨x0,x1⟩:=hB2.c2;obtain⟨y0,y1,y2⟩:=hX.c3)|(go_at_call 64;refine(c4 _).mono ?_;rintro e w1 ⟨rfl,rfl⟩))
  go_ret;exact⟨ret_bool (by rw[HE.out];rfl),uW⟩
 rcases b2 with _|_
 ·(go_wp2_with first|(go_at_call 273;(first|(with_reducible refine(c1 _).mono ?_)|(with_reducible refine(c2 _).mono ?_));rintro e w1 ⟨rfl,v⟩;replace uW:=uW.trans v;replace hB2:=hB2.up v;replace hX:=hX.up v;clear v;obtain⟨x0,x1⟩:=hB2.c2;obtain⟨y0,y1,y2⟩:=hX.c3)|(go_at_call 64;refine(c4 _).mono ?_;rintro e w1 ⟨rfl,rfl⟩))
  go_ret;exact⟨ret_bool (by rw[HE.out];rfl),uW⟩
 by_cases hab:d.a=d.b
 ·have hab2:(d.a==d.b)=true:=by simp[hab]
  have HAB:=qh hab
  clear hab;(go_wp2_with first|(go_at_call 273;(first|(with_reducible refine(c1 _).mono ?_)|(with_reducible refine(c2 _).mono ?_));rintro e w1 ⟨rfl,v⟩;replace uW:=uW.trans v;replace hB2:=hB2.up v;replace hX:=hX.up v;clear v;obtain⟨x0,x1⟩:=hB2.c2;obtain⟨y0,y1,y2⟩:=hX.c3)|(go_at_call 64;refine(c4 _).mono ?_;rintro e w1 ⟨rfl,rfl⟩))
  go_ret;exact⟨ret_bool (by rw[HE.out,HAB.out];simp),uW⟩
 have hab2:(d.a==d.b)=false:=by simp[hab]
 have HAB:=qh (show(d.a != d.b)=true by simp[hab])
 clear hab;rcases b4 with _|_
 all_goals (go_wp2_with first|(go_at_call 273;(first|(with_reducible refine(c1 _).mono ?_)|(with_reducible refine(c2 _).mono ?_));rintro e w1 ⟨rfl,v⟩;replace uW:=uW.trans v;replace hB2:=hB2.up v;replace hX:=hX.up v;clear v;obtain⟨x0,x1⟩:=hB2.c2;obtain⟨y0,y1,y2⟩:=hX.c3)|(go_at_call 64;refine(c4 _).mono ?_;rintro e w1 ⟨rfl,rfl⟩))
 all_goals go_ret
 all_goals exact⟨ret_bool (by rw[HE.out,HAB.out];rfl),uW⟩
theorem implIsLand_any(s:Sl ByteArray)(t:Sl I3)(lo hi:Nat)(w:World)(h:SrSt w lo hi s)(h2:SrI3 w lo hi t) :
 Calls Tryz.prog 237 #[.agg #[.slice s.A s.l.length s.c,.slice t.A t.l.length t.c]] w fun e w'=>e=.returned (.bool (ldB s.l t.l))∧Up w w':=by
 obtain⟨A,c,l⟩:=s
 obtain⟨B,ct,ts⟩:=t
 have hn:l.length≤2000000:=h.len
 have hn2:ts.length≤2000000:=h2.len
 have hok:=qh h.ok
 have hr:=h.rd
 have hhi:=h.hhi
 have hr2:=h2.rd
 have hcap:l.length≤c:=h.cap.1
 have hcm:c≤maxLen:=h.cap.2
 unfold maxLen at hcm
 have HE0:=qh (show ldB l ts=((decide (1≤l.length) && (decide (l.length≤12) && decide (ts.length≤40))) && (allK l (plQ l) && ts.all (wyB l.length))) from rfl)
 clear h h2;show Calls _ _ #[.agg #[.slice A l.length c,.slice B ts.length ct]] _ fun e w'=>e=.returned (.bool (ldB l ts))∧_
 have u0:=Up.alloc w (.cells #[.slice A l.length c,.slice B ts.length ct] 55)
 have hB:=Bx.new w #[.slice A l.length c,.slice B ts.length ct] 55
 by_cases g0:1≤l.length
 rotate_left
 ·have g0':l.length<1:=by omega
  go_enter Tryz.func237,Tryz.ntmps237
  go_wp2
  all_goals (go_ret;exact⟨ret_bool (by rw[HE0.out,decide_eq_false g0];rfl),by first|exact u0|(refine u0.trans ?_;assumption)⟩)
 by_cases g1:l.length≤12
 rotate_left
 ·have g0':¬ l.length<1:=by omega
  have g1':12<l.length:=by omega
  go_enter Tryz.func237,Tryz.ntmps237
  go_wp2
  all_goals (go_ret;exact⟨ret_bool (by rw[HE0.out,decide_eq_false g1];simp),by first|exact u0|(refine u0.trans ?_;assumption)⟩)
 by_cases g2:ts.length≤40
 rotate_left
 ·have g0':¬ l.length<1:=by omega
  have g1':¬ 12<l.length:=by omega
  have g2':40<ts.length:=by omega
  go_enter Tryz.func237,Tryz.ntmps237
  go_wp2
  all_goals (go_ret;exact⟨ret_bool (by rw[HE0.out,decide_eq_false g2];simp),by first|exact u0|(refine u0.trans ?_;assumption)⟩)
 have g0':¬ l.length<1:=by omega
 have g1':¬ 12<l.length:=by omega
 have g2':¬ 40<ts.length:=by omega
 have HE:=qh (show ldB l ts=(allK l (plQ l) && ts.all (wyB l.length)) by rw[HE0.out,decide_eq_true g0,decide_eq_true g1,decide_eq_true g2];rfl)
 clear g0 g1 g2 HE0;go_enter Tryz.func237,Tryz.ntmps237
 go_wp2;have hw0:w.heap.size<(w.alloc (.cells #[.slice A l.length c,.slice B ts.length ct] 55)).heap.size:=hB.lt
 generalize w.alloc (.cells #[.slice A l.length c,.slice B ts.length ct] 55)=w0 at *
 go_loopw [3,4,24] (fun u3 u4 i wr=>∃k:Nat,k≤l.length∧i=.int .i64 k∧(∀j d,j<k→l[j]?=some d→plQ l j d=true)∧Up w0 wr) (fun _ _ i _=>l.length-(intOf i).toNat)
 case atStart=>exact⟨0,Nat.zero_le _,rfl,fun j d h=>absurd h (by omega),Up.refl _⟩
 case round =>
  obtain⟨k,hk,rfl,ha,hup⟩:=hrel
  have HA:=qh ha
  clear ha;obtain⟨x0,x1⟩:=(hB.up hup).c2
  by_cases hlt:k<l.length
  ·have R:=qh ((hr.take k).up (u0.trans hup) hhi)
   obtain⟨b,off,d,rfl,-,-,hd,q0⟩:=((hr.up u0 hhi).up hup (Nat.le_trans hhi u0.size)).txt hlt
   have HD:=qh hd
   clear hd;have hkc:k≤c:=by omega
   have hhr:hi≤wr.heap.size:=Nat.le_trans hhi (u0.trans hup).size
   obtain⟨b1,hb1⟩:∃x,x=nameB d 12:=⟨_,rfl⟩
   obtain⟨iz,hiz⟩:∃x,x=decide (0≤txIx (l.take k) d):=⟨_,rfl⟩
   have cN:=fun wx=>isSmall_any d 12 wx (hok.out d (List.mem_of_getElem? HD.out))
   have cT:=fun wx (u:Up wr wx)=>txContains_any (some ⟨b,off,none⟩) (l.take k) c lo hi d wx (R.out.up u hhr) (by rw[List.length_take];omega)
   rw[List.length_take,Nat.min_eq_left hk]at cT;simp only[← hb1]at cN
   simp only[← hiz]at cT
   have HQ:=qh (show plQ l k d=(b1 && !iz) by rw[plQ_any,hb1,hiz])
   have HN:=qh cN
   have HT:=qh cT
   clear hb1 hiz cN cT;go_wp2_with fail
   rcases b1 with _|_
   ·go_wp2_with (go_at_call 196;refine(HN.out _).mono ?_;rintro e w2 ⟨rfl,hup2⟩)
    go_ret;exact⟨ret_bool (by rw[HE.out,allK_no HD.out (by rw[HQ.out];rfl)];rfl),u0.trans (hup.trans hup2)⟩
   rcases iz with _|_
   rotate_left
   ·go_wp2_with first|(go_at_call 196;refine(HN.out _).mono ?_;rintro e w2 ⟨rfl,hup2⟩;obtain⟨x0,x1⟩:=(hB.up (hup.trans hup2)).c2)|(go_at_call 201;refine(HT.out _ hup2).mono ?_;rintro e w3 ⟨rfl,rfl⟩)
    go_ret;exact⟨ret_bool (by rw[HE.out,allK_no HD.out (by rw[HQ.out];rfl)];rfl),u0.trans (hup.trans hup2)⟩
   ·go_wp2_with first|(go_at_call 196;refine(HN.out _).mono ?_;rintro e w2 ⟨rfl,hup2⟩;obtain⟨x0,x1⟩:=(hB.up (hup.trans hup2)).c2)|(go_at_call 201;refine(HT.out _ hup2).mono ?_;rintro e w3 ⟨rfl,rfl⟩)
    go_roundw
    case rel=>exact⟨k+1,by omega,by go_num,allK_step HA.out HD.out (by rw[HQ.out];rfl),hup.trans hup2⟩
    case measure=>simp[intOf];omega
  ·have HPS:=qh (allK_end (l:=l) (q:=plQ l) (fun j d hj hd=>HA.out j d (by omega) hd))
   clear HA;have hr3:=(hr2.up u0 hhi).up hup (Nat.le_trans hhi u0.size)
   have hc:=qh (containsFuncI3_any B ts ct lo hi 272 #[.pointer (some ⟨w.heap.size,0,none⟩)] (fun x=>!wyB l.length x) wr hr3 (Nat.le_trans hhi (u0.trans hup).size) hn2 (fun _ _=>by kernel_rfl) (fun d hd w1 hu=>landClosure_any ⟨A,c,l⟩ ⟨B,ct,ts⟩ d w.heap.size w1 hn ((hB.up hup).up hu)))
   go_wp2_with (go_at_call 271;refine hc.out.mono ?_;rintro e w2 ⟨rfl,v⟩)
   go_ret;exact⟨ret_bool (by rw[HE.out,HPS.out];simp[List.all_eq_not_any_not]),u0.trans (hup.trans v)⟩
theorem isStay_any(s:Sl ByteArray)(t:Sl I3)(d:I3)(w:World)(hn:s.l.length≤2000000) :
 Calls Tryz.prog 274 #[.agg #[.slice s.A s.l.length s.c,.slice t.A t.l.length t.c],d.val] w fun e w'=>e=.returned (.bool (syB s.l.length d))∧Up w w':=by
 obtain⟨b1,hb1⟩:∃x,x=inB d.a 0 (s.l.length-1):=⟨_,rfl⟩
 obtain⟨b2,hb2⟩:∃x,x=dayB d.b:=⟨_,rfl⟩
 obtain⟨b3,hb3⟩:∃x,x=dayB d.d:=⟨_,rfl⟩
 have c1:=fun wx=>isPlace_any s t d.a wx hn
 have c2:=fun wx=>isDay_any d.b wx
 have c3:=fun wx=>isDay_any d.d wx
 simp only[← hb1]at c1
 simp only[← hb2]at c2
 simp only[← hb3]at c3
 have HE:=qh (show syB s.l.length d=(b1 && (b2 && (b3 && decide (d.b≤d.d)))) by unfold syB spanB;rw[hb1,hb2,hb3])
 clear hb1 hb2 hb3;have u:Up w ((w.alloc (.cells #[.slice s.A s.l.length s.c,.slice t.A t.l.length t.c] 55)).alloc (.cells #[.int .i64 d.a,.int .i64 d.b,.int .i64 d.d] 172)):=(Up.alloc _ _).allocs _
 have hB:Bx ((w.alloc (.cells #[.slice s.A s.l.length s.c,.slice t.A t.l.length t.c] 55)).alloc (.cells #[.int .i64 d.a,.int .i64 d.b,.int .i64 d.d] 172)) (w.heap.size+1) [.int .i64 d.a,.int .i64 d.b,.int .i64 d.d]:=by
  have:=Bx.new (w.alloc (.cells #[.slice s.A s.l.length s.c,.slice t.A t.l.length t.c] 55)) #[.int .i64 d.a,.int .i64 d.b,.int .i64 d.d] 172
  simpa using this
 cases b1<;>cases b2<;>cases b3<;>go_enter Tryz.func274,Tryz.ntmps274
 all_goals (go_wp2_with first|(go_at_call 273;refine(c1 _).mono ?_;rintro e w1 ⟨rfl,hup⟩;obtain⟨x0,x1,x2⟩:=(hB.up hup).c3)|(go_at_call 203;(first|(with_reducible refine(c2 _).mono ?_)|(with_reducible refine(c3 _).mono ?_));rintro e w' ⟨rfl,rfl⟩))
 all_goals go_ret
 all_goals exact⟨ret_bool (by rw[HE.out];first|rfl|simp),u.trans hup⟩
theorem isNaNS_any(s:ByteArray)(w:World):Calls Tryz.prog 307 #[.string s] w fun e w'=>e=.returned (.bool false)∧w=w':=by
 go_enter Tryz.func307,Tryz.ntmps307
 go_wp2;go_ret;exact⟨ret_bool (by simp),rfl⟩
theorem isNaNI_any(s:Int)(w:World):Calls Tryz.prog 123 #[.int .i64 s] w fun e w'=>e=.returned (.bool false)∧w=w':=by
 go_enter Tryz.func123,Tryz.ntmps123
 go_wp2;go_ret;exact⟨ret_bool (by simp),rfl⟩
def cmpS(a b:ByteArray):Int:=if Op.bytesLess a.toList b.toList then -1 else if Op.bytesLess b.toList a.toList then 1 else 0
def cmpZ(a b:Int):Int:=if a<b then -1 else if b<a then 1 else 0
theorem compareS_any(a b:ByteArray)(w:World):Calls Tryz.prog 276 #[.string a,.string b] w fun e w'=>e=.returned (.int .i64 (cmpS a b))∧w=w':=by
 obtain⟨x,hx⟩:∃x,x=Op.bytesLess a.toList b.toList:=⟨_,rfl⟩
 obtain⟨y,hy⟩:∃x,x=Op.bytesLess b.toList a.toList:=⟨_,rfl⟩
 have HE:=qh (show cmpS a b=if x=true then -1 else if y=true then 1 else 0 by unfold cmpS;rw[hx,hy])
 cases x<;>cases y
 all_goals
  have hx':=hx.symm
  have hy':=hy.symm
  have he:(a.toList==b.toList)=true∨(a.toList==b.toList)=false:=by cases (a.toList==b.toList)<;>simp
  have HX:=qh hx'
  have HY:=qh hy'
  clear hx hy;rcases he with he|he
  all_goals first
   |(exfalso;rw[beq_iff_eq]at he;have hx2:=HX.out;have hy2:=HY.out;rw[he,less_irr]at hx2;cases hx2;done)
   |(exfalso;rw[beq_iff_eq]at he;have hx2:=HX.out;have hy2:=HY.out;rw[he,less_irr]at hy2;cases hy2;done)
   |(exfalso;rw[less_tri _ _ HX.out HY.out]at he;simp at he;done)
   |(go_enter Tryz.func276,Tryz.ntmps276
     go_wp2_with (go_at_call 307;refine(isNaNS_any _ _).mono ?_;rintro e w' ⟨rfl,rfl⟩)
     go_ret;exact⟨ret_int (by rw[HE.out];rfl),rfl⟩)
theorem compareI_any(a b:Int)(w:World):Calls Tryz.prog 68 #[.int .i64 a,.int .i64 b] w fun e w'=>e=.returned (.int .i64 (cmpZ a b))∧w=w':=by
 go_enter Tryz.func68,Tryz.ntmps68
 go_wp2_with (go_at_call 123;refine(isNaNI_any _ _).mono ?_;rintro e w' ⟨rfl,rfl⟩)
 all_goals go_ret
 all_goals exact⟨ret_int (by unfold cmpZ;first|(simp_all;done)|(simp_all;omega)|(split<;>(try split)<;>omega)),rfl⟩
theorem cmpOr_any(w:World)(g:Nat)(x y:Int)(h0:w.cell? ⟨g,0,none⟩=some (.int .i64 x))(h1:w.cell? ⟨g,1,none⟩=some (.int .i64 y)) :
 Calls Tryz.prog 275 #[.slice (some ⟨g,0,none⟩) 2 2] w fun e w'=>e=.returned (.int .i64 (if x=0 then y else x))∧w=w':=by
 go_enter Tryz.func275,Tryz.ntmps275
 go_wp2;go_loop [5,8] (fun _ i=>∃k:Nat,k≤2∧i=.int .i64 k∧(1≤k→x=0)∧(2≤k→y=0)) (fun _ i=>2-(intOf i).toNat)
 case atStart=>exact⟨0,by omega,rfl,fun h=>absurd h (by omega),fun h=>absurd h (by omega)⟩
 case round =>
  obtain⟨k,hk,rfl,ha,hb⟩:=hrel
  have HA:=qh ha
  have HB:=qh hb
  clear ha hb;rcases Nat.lt_or_ge k 2 with h2|h2
  ·rcases Nat.eq_zero_or_pos k with h3|h3
   ·subst h3
    by_cases hx:x=0
    ·have HX:=qh hx
     have hx2:(x==0)=true:=by simp[hx]
     clear hx;go_wp2;go_round
     case rel=>exact⟨1,by omega,by go_num,fun _=>HX.out,fun h=>absurd h (by omega)⟩
     case measure=>simp[intOf]
    ·have hx2:(x==0)=false:=by simp[hx]
     have HX:=qh hx
     clear hx;go_wp2;go_ret;exact⟨ret_int (by first|rfl|rw[if_neg HX.out]),rfl⟩
   ·obtain rfl:k=1:=by omega
    have HX:=qh (HA.out (by omega))
    by_cases hx:y=0
    ·have HY:=qh hx
     have hx2:(y==0)=true:=by simp[hx]
     clear hx;go_wp2;go_round
     case rel=>exact⟨2,by omega,by go_num,fun _=>HX.out,fun h=>HY.out⟩
     case measure=>simp[intOf]
    ·have hx2:(y==0)=false:=by simp[hx]
     clear hx;go_wp2;go_ret;exact⟨ret_int (by first|rfl|rw[if_pos HX.out]),rfl⟩
  ·obtain rfl:k=2:=by omega
   go_wp2
   all_goals go_ret
   all_goals exact⟨ret_int (by first|exact absurd (HA.out (by omega)) (by assumption)|exact(HB.out (by omega)).symm|exact(HA.out (by omega)).symm|rw[if_pos (HA.out (by omega)),HB.out (by omega)]),rfl⟩
def cmpM(x d:Nm):Int:=if cmpS x.nm d.nm=0 then cmpZ x.fr d.fr else cmpS x.nm d.nm
theorem cmpM_am(x d:Nm):decide (0≤cmpM x d)=!amP d x:=by
 unfold cmpM amP lessB cmpS cmpZ
 rcases h1:Op.bytesLess x.nm.toList d.nm.toList with _|_
 ·rcases h2:Op.bytesLess d.nm.toList x.nm.toList with _|_
  ·have e:=less_tri _ _ h1 h2
   rw[e];by_cases h3:x.fr<d.fr
   ·simp[h3]
   ·by_cases h4:d.fr<x.fr
    ·have:¬ x.fr<d.fr:=by omega
     simp[h3,h4]
    ·simp[h3,h4]
  ·have e:(x.nm.toList==d.nm.toList)=false:=by
    rw[beq_eq_false_iff_ne];intro e;rw[e,less_irr]at h2;cases h2
   rw[e];simp
 ·simp
theorem compareMarks_any(x d:Nm)(w:World):Calls Tryz.prog 239 #[x.val,d.val] w fun e w'=>e=.returned (.int .i64 (cmpM x d))∧Up w w':=by
 have u:Up w ((w.alloc (.cells #[.string x.nm,.int .i64 x.fr,.int .i64 x.to_] 174)).alloc (.cells #[.string d.nm,.int .i64 d.fr,.int .i64 d.to_] 174)):=(Up.alloc _ _).allocs _
 have hX:=(Bx.new w #[.string x.nm,.int .i64 x.fr,.int .i64 x.to_] 174).up (Up.alloc _ (.cells #[.string d.nm,.int .i64 d.fr,.int .i64 d.to_] 174))
 have hY:Bx ((w.alloc (.cells #[.string x.nm,.int .i64 x.fr,.int .i64 x.to_] 174)).alloc (.cells #[.string d.nm,.int .i64 d.fr,.int .i64 d.to_] 174)) (w.heap.size+1) [.string d.nm,.int .i64 d.fr,.int .i64 d.to_]:=by
  have:=Bx.new (w.alloc (.cells #[.string x.nm,.int .i64 x.fr,.int .i64 x.to_] 174)) #[.string d.nm,.int .i64 d.fr,.int .i64 d.to_] 174
  simpa using this
 obtain⟨z1,hz1⟩:∃z,z=cmpS x.nm d.nm:=⟨_,rfl⟩
 obtain⟨z2,hz2⟩:∃z,z=cmpZ x.fr d.fr:=⟨_,rfl⟩
 have c1:=fun wx=>compareS_any x.nm d.nm wx
 have c2:=fun wx=>compareI_any x.fr d.fr wx
 simp only[← hz1]at c1
 simp only[← hz2]at c2
 have C1:=qh c1
 have C2:=qh c2
 have HE:=qh (show cmpM x d=if z1=0 then z2 else z1 by unfold cmpM;rw[hz1,hz2])
 obtain⟨zz,hzz⟩:∃z,z=if z1=0 then z2 else z1:=⟨_,rfl⟩
 have C3:=qh (fun(wx:World) (g:Nat) (h0:wx.cell? ⟨g,0,none⟩=some (.int .i64 z1)) (h1:wx.cell? ⟨g,1,none⟩=some (.int .i64 z2))=>(show Calls Tryz.prog 275 #[.slice (some ⟨g,0,none⟩) 2 2] wx (fun e w'=>e=.returned (.int .i64 zz)∧wx=w') by rw[hzz];exact cmpOr_any wx g z1 z2 h0 h1))
 have HZ:=qh (show cmpM x d=zz by rw[HE.out,hzz])
 clear hz1 hz2 c1 c2 hzz HE;go_enter Tryz.func239,Tryz.ntmps239
 go_wp2_with fail
 generalize (w.alloc (.cells #[.string x.nm,.int .i64 x.fr,.int .i64 x.to_] 174)).alloc (.cells #[.string d.nm,.int .i64 d.fr,.int .i64 d.to_] 174)=W1 at *
 obtain⟨x0,x1,x2⟩:=hX.c3
 obtain⟨y0,y1,y2⟩:=hY.c3
 clear x2 y2 hX hY;go_region_held3 (fun w'=>Up W1 w'∧w'.cell? ⟨w.heap.size,0,none⟩=some (.string x.nm)∧w'.cell? ⟨w.heap.size,1,none⟩=some (.int .i64 x.fr)∧w'.cell? ⟨w.heap.size+1,0,none⟩=some (.string d.nm)∧w'.cell? ⟨w.heap.size+1,1,none⟩=some (.int .i64 d.fr)) (first|exact⟨Up.refl _,x0,x1,y0,y1⟩|exact⟨(Up.refl _).drew,x0,x1,y0,y1⟩|exact((Up.refl _).allocs _).drew|exact((Up.refl _).drew).allocs _|exact⟨((Up.refl _).allocs _).drew,(Up.alloc _ _).cell x0,(Up.alloc _ _).cell x1,(Up.alloc _ _).cell y0,(Up.alloc _ _).cell y1⟩)
  (first|(go_at_call 276;refine(C1.out _).mono ?_;rintro e wn ⟨rfl,rfl⟩)|(go_at_call 68;refine(C2.out _).mono ?_;rintro e wn ⟨rfl,rfl⟩)|(go_at_call 275;refine(C3.out _ _ (by go_simp) (by go_simp)).mono ?_;rintro e wn ⟨rfl,rfl⟩))
 go_wp2;go_ret;exact⟨ret_int HZ.out.symm,u.trans (by first|exact(Up.alloc _ _).drew|exact((Up.refl _).allocs _).drew|exact((Up.refl _).drew).allocs _|assumption)⟩
theorem amQ_alt(l:List Nm)(k:Nat)(d:Nm):amQ l k d=(rgB d && pv l k (amP d)):=rfl
theorem implAreMarks_any(s:Sl Nm)(lo hi:Nat)(w:World)(h:SrNm w lo hi s) :
 Calls Tryz.prog 195 #[.slice s.A s.l.length s.c] w fun e w'=>e=.returned (.bool (amB s.l))∧Up w w':=by
 obtain⟨A,c,l⟩:=s
 have hn:l.length≤2000000:=h.len
 have hok:=qh h.ok
 have hr:=h.rd
 have hhi:=h.hhi
 clear h;show Calls _ _ #[.slice A l.length c] _ fun e w'=>e=.returned (.bool (amB l))∧_
 have HE0:=qh (show amB l=(allK l (amQ l) && decide (l.length≤40)) from rfl)
 go_enter Tryz.func195,Tryz.ntmps195
 go_wp2;go_loopw [3,4,7] (fun u3 u4 i wr=>∃k:Nat,k≤l.length∧i=.int .i64 k∧(∀j d,j<k→l[j]?=some d→amQ l j d=true)∧Up w wr) (fun _ _ i _=>l.length-(intOf i).toNat)
 case atStart=>exact⟨0,Nat.zero_le _,rfl,fun j d h=>absurd h (by omega),Up.refl _⟩
 case round =>
  obtain⟨k,hk,rfl,ha,hup⟩:=hrel
  have HA:=qh ha
  clear ha;by_cases hlt:k<l.length
  ·obtain⟨b,off,d,rfl,-,-,hd,q0,q1,q2⟩:=(hr.up hup hhi).nm hlt
   have HD:=qh hd
   clear hd;have v1:=Up.alloc wr (.cells #[.string d.nm,.int .i64 d.fr,.int .i64 d.to_] 174)
   have hX:=Bx.new wr #[.string d.nm,.int .i64 d.fr,.int .i64 d.to_] 174
   go_wp2_with fail
   generalize wr.alloc (.cells #[.string d.nm,.int .i64 d.fr,.int .i64 d.to_] 174)=W1 at *
   obtain⟨y0,y1,y2⟩:=hX.c3
   have Y0:=cell_regrown y0
   have Y1:=cell_regrown y1
   have Y2:=cell_regrown y2
   obtain⟨b1,hb1⟩:∃x,x=nameB d.nm 12:=⟨_,rfl⟩
   obtain⟨b2,hb2⟩:∃x,x=dayB d.fr:=⟨_,rfl⟩
   obtain⟨b3,hb3⟩:∃x,x=dayB d.to_:=⟨_,rfl⟩
   have cN:∀dd os,Calls Tryz.prog 196 #[.string d.nm,.int .i64 12] (grow (redrawn W1 dd) os) fun e w''=>e=.returned (.bool (nameB d.nm 12))∧∃p:Regrown,w''=grow (redrawn W1 p.d) p.os :=
    fun dd os=>Calls.regrown_of (isSmall_any d.nm 12 _ (hok.out d (List.mem_of_getElem? HD.out)))
   have cF:∀dd os,Calls Tryz.prog 203 #[.int .i64 d.fr] (grow (redrawn W1 dd) os) fun e w''=>e=.returned (.bool (dayB d.fr))∧∃p:Regrown,w''=grow (redrawn W1 p.d) p.os :=
    fun dd os=>Calls.regrown_of (isDayU d.fr _)
   have cT:∀dd os,Calls Tryz.prog 203 #[.int .i64 d.to_] (grow (redrawn W1 dd) os) fun e w''=>e=.returned (.bool (dayB d.to_))∧∃p:Regrown,w''=grow (redrawn W1 p.d) p.os :=
    fun dd os=>Calls.regrown_of (isDayU d.to_ _)
   rw[← hb1]at cN;rw[← hb2]at cF;rw[← hb3]at cT;have HE:=qh (show rgB d=(b1 && (b2 && (b3 && decide (d.fr≤d.to_)))) by rw[rgB_alt,hb1,hb2,hb3])
   clear hb1 hb2 hb3 y0 y1 y2;rcases b1 with _|_
   ·refine wp_region_quiet_below (by kernel_rfl) (by kernel_rfl) ?_
    repeat (first|go_big_quiet_step ((first|(go_at_call 196;exact cN _ _)|(go_at_call 203;first|with_reducible exact cF _ _|with_reducible exact cT _ _)))|quiet_step ((first|(go_at_call 196;exact cN _ _)|(go_at_call 203;first|with_reducible exact cF _ _|with_reducible exact cT _ _))))
    refine wpQuiet_nil ?_
    intro w2 hw2
    obtain⟨⟨dq,osq⟩,hw2⟩:=hw2
    have hup2:Up W1 w2:=by rw[hw2];exact below_regrown _ _ _
    clear hw2 Y0 Y1 Y2 cN cF cT;go_wp2;go_ret;exact⟨ret_bool (by rw[HE0.out,allK_no HD.out (by rw[amQ_alt,HE.out];rfl)];rfl),hup.trans (v1.trans hup2)⟩
   rcases b2 with _|_
   ·refine wp_region_quiet_below (by kernel_rfl) (by kernel_rfl) ?_
    repeat (first|go_big_quiet_step ((first|(go_at_call 196;exact cN _ _)|(go_at_call 203;first|with_reducible exact cF _ _|with_reducible exact cT _ _)))|quiet_step ((first|(go_at_call 196;exact cN _ _)|(go_at_call 203;first|with_reducible exact cF _ _|with_reducible exact cT _ _))))
    refine wpQuiet_nil ?_
    intro w2 hw2
    obtain⟨⟨dq,osq⟩,hw2⟩:=hw2
    have hup2:Up W1 w2:=by rw[hw2];exact below_regrown _ _ _
    clear hw2 Y0 Y1 Y2 cN cF cT;go_wp2;go_ret;exact⟨ret_bool (by rw[HE0.out,allK_no HD.out (by rw[amQ_alt,HE.out];rfl)];rfl),hup.trans (v1.trans hup2)⟩
   rcases b3 with _|_
   ·refine wp_region_quiet_below (by kernel_rfl) (by kernel_rfl) ?_
    repeat (first|go_big_quiet_step ((first|(go_at_call 196;exact cN _ _)|(go_at_call 203;first|with_reducible exact cF _ _|with_reducible exact cT _ _)))|quiet_step ((first|(go_at_call 196;exact cN _ _)|(go_at_call 203;first|with_reducible exact cF _ _|with_reducible exact cT _ _))))
    refine wpQuiet_nil ?_
    intro w2 hw2
    obtain⟨⟨dq,osq⟩,hw2⟩:=hw2
    have hup2:Up W1 w2:=by rw[hw2];exact below_regrown _ _ _
    clear hw2 Y0 Y1 Y2 cN cF cT;go_wp2;go_ret;exact⟨ret_bool (by rw[HE0.out,allK_no HD.out (by rw[amQ_alt,HE.out];rfl)];rfl),hup.trans (v1.trans hup2)⟩
   by_cases hft:d.to_<d.fr
   ·have HFT:=qh (show decide (d.fr≤d.to_)=false by simp;omega)
    refine wp_region_quiet_below (by kernel_rfl) (by kernel_rfl) ?_
    repeat (first|go_big_quiet_step ((first|(go_at_call 196;exact cN _ _)|(go_at_call 203;first|with_reducible exact cF _ _|with_reducible exact cT _ _)))|quiet_step ((first|(go_at_call 196;exact cN _ _)|(go_at_call 203;first|with_reducible exact cF _ _|with_reducible exact cT _ _))))
    refine wpQuiet_nil ?_
    intro w2 hw2
    obtain⟨⟨dq,osq⟩,hw2⟩:=hw2
    have hup2:Up W1 w2:=by rw[hw2];exact below_regrown _ _ _
    clear hw2 Y0 Y1 Y2 cN cF cT;go_wp2;go_ret;exact⟨ret_bool (by rw[HE0.out,allK_no HD.out (by rw[amQ_alt,HE.out,HFT.out];rfl)];rfl),hup.trans (v1.trans hup2)⟩
   have HFT:=qh (show decide (d.fr≤d.to_)=true by simp;omega)
   rcases Nat.eq_zero_or_pos k with hk0|hk0
   ·have hgt:¬ 0<k:=by omega
    have HK0:=qh hk0
    clear hk0;refine wp_region_quiet_below (by kernel_rfl) (by kernel_rfl) ?_
    repeat (first|go_big_quiet_step ((first|(go_at_call 196;exact cN _ _)|(go_at_call 203;first|with_reducible exact cF _ _|with_reducible exact cT _ _)))|quiet_step ((first|(go_at_call 196;exact cN _ _)|(go_at_call 203;first|with_reducible exact cF _ _|with_reducible exact cT _ _))))
    refine wpQuiet_nil ?_
    intro w2 hw2
    obtain⟨⟨dq,osq⟩,hw2⟩:=hw2
    have hup2:Up W1 w2:=by rw[hw2];exact below_regrown _ _ _
    clear hw2 Y0 Y1 Y2 cN cF cT;go_wp2;go_roundw
    case rel=>exact⟨k+1,by omega,by go_num,allK_step HA.out HD.out (by rw[amQ_alt,HE.out,HFT.out,HK0.out];rfl),hup.trans (v1.trans hup2)⟩
    case measure=>simp[intOf];omega
   obtain⟨q,hkq⟩:∃q,k=q+1:=⟨k-1,by omega⟩
   have hql:q<l.length:=by omega
   have hwr:IntKind.i64.wrap ((k:Int)-1)=(q:Int):=by rw[IntWalk.i64_in _ (by omega)];omega
   obtain⟨b',off',d',hbo,-,-,hd',p0,p1,p2⟩:=(hr.up (hup.trans v1) hhi).nm hql
   cases hbo;have HD':=qh hd'
   have HKQ:=qh hkq
   have P0:=cell_regrown p0
   have P1:=cell_regrown p1
   have P2:=cell_regrown p2
   clear hd' hkq p0 p1 p2;obtain⟨zc,hzc⟩:∃x,x=cmpM d' d:=⟨_,rfl⟩
   have cC:∀dd os,Calls Tryz.prog 239 #[d'.val,d.val] (grow (redrawn W1 dd) os) fun e w''=>e=.returned (.int .i64 (cmpM d' d))∧∃p:Regrown,w''=grow (redrawn W1 p.d) p.os :=
    fun dd os=>Calls.regrown_of (compareMarks_any d' d _)
   rw[← hzc]at cC;have HC:=qh (show decide (0≤zc)=!amP d d' by rw[hzc];exact cmpM_am d' d)
   clear hzc;by_cases hz:0≤zc
   ·have HT:=qh (show amP d d'=false by have:=HC.out;rw[decide_eq_true hz]at this;simpa using this.symm)
    refine wp_region_quiet_below (by kernel_rfl) (by kernel_rfl) ?_
    repeat (first|go_big_quiet_step ((first|(go_at_call 196;exact cN _ _)|(go_at_call 203;first|with_reducible exact cF _ _|with_reducible exact cT _ _)|(go_at_call 239;exact cC _ _)))|quiet_step ((first|(go_at_call 196;exact cN _ _)|(go_at_call 203;first|with_reducible exact cF _ _|with_reducible exact cT _ _)|(go_at_call 239;exact cC _ _))))
    refine wpQuiet_nil ?_
    intro w2 hw2
    obtain⟨⟨dq,osq⟩,hw2⟩:=hw2
    have hup2:Up W1 w2:=by rw[hw2];exact below_regrown _ _ _
    clear hw2 Y0 Y1 Y2 cN cF cT P0 P1 P2 cC;go_wp2;go_ret;exact⟨ret_bool (by rw[HE0.out,allK_no HD.out (by rw[amQ_alt,HE.out,HFT.out,HKQ.out,pv_s HD'.out,HT.out];rfl)];rfl),hup.trans (v1.trans hup2)⟩
   have HT:=qh (show amP d d'=true by have:=HC.out;rw[decide_eq_false hz]at this;simpa using this.symm)
   refine wp_region_quiet_below (by kernel_rfl) (by kernel_rfl) ?_
   repeat (first|go_big_quiet_step ((first|(go_at_call 196;exact cN _ _)|(go_at_call 203;first|with_reducible exact cF _ _|with_reducible exact cT _ _)|(go_at_call 239;exact cC _ _)))|quiet_step ((first|(go_at_call 196;exact cN _ _)|(go_at_call 203;first|with_reducible exact cF _ _|with_reducible exact cT _ _)|(go_at_call 239;exact cC _ _))))
   refine wpQuiet_nil ?_
   intro w2 hw2
   obtain⟨⟨dq,osq⟩,hw2⟩:=hw2
   have hup2:Up W1 w2:=by rw[hw2];exact below_regrown _ _ _
   clear hw2 Y0 Y1 Y2 cN cF cT P0 P1 P2 cC;go_wp2;go_roundw
   case rel=>exact⟨k+1,by omega,by go_num,allK_step HA.out HD.out (by rw[amQ_alt,HE.out,HFT.out,HKQ.out,pv_s HD'.out,HT.out];rfl),hup.trans (v1.trans hup2)⟩
   case measure=>simp[intOf];omega
  ·have HF:=qh (allK_end (l:=l) (q:=amQ l) (fun j d hj hd=>HA.out j d (by omega) hd))
   go_wp2;go_ret;exact⟨ret_bool (by rw[HE0.out,HF.out,Bool.true_and];exact decide_eq_decide.2 (by omega)),hup⟩
theorem dixClosure_any(d:Dd)(nm:ByteArray)(b:Nat)(w:World)(hc:w.cell? ⟨b,0,none⟩=some (.string nm)) :
 Calls Tryz.prog 242 #[d.val,.pointer (some ⟨b,0,none⟩)] w fun e w'=>e=.returned (.bool (d.nm.toList==nm.toList))∧Up w w':=by
 have c1:=(Up.alloc w (.cells #[.string d.nm,.slice d.da.A d.da.l.length d.da.c,.slice d.wi.A d.wi.l.length d.wi.c,.string d.pl,.string d.se,.string d.ha,.slice d.ci.A d.ci.l.length d.ci.c] 81)).cell hc
 go_enter Tryz.func242,Tryz.ntmps242
 go_wp2;go_ret;exact⟨rfl,Up.alloc _ _⟩
theorem deedIndex_any(A:Option Addr)(l:List Dd)(c lo hi:Nat)(nm:ByteArray)(w:World)(hr:Rd w lo hi 7 Dd.cells A l)(hhi:hi≤w.heap.size)(hn:l.length≤2000000) :
 Calls Tryz.prog 197 #[.slice A l.length c,.string nm] w fun e w'=>e=.returned (.int .i64 (ixB l fun x=>x.nm.toList==nm.toList))∧Up w w':=by
 have u:=Up.alloc w (.cells #[.string nm] 9)
 have hc:(w.alloc (.cells #[.string nm] 9)).cell? ⟨w.heap.size,0,none⟩=some (.string nm):=by go_simp
 have H:=qh (indexFuncDd_any A l c lo hi 242 #[.pointer (some ⟨w.heap.size,0,none⟩)] (fun x=>x.nm.toList==nm.toList) _ (hr.up u hhi) (Nat.le_trans hhi u.size) hn (fun _ _=>by kernel_rfl) (fun d hd w1 hu=>dixClosure_any d nm w.heap.size w1 (hu.cell hc)))
 go_enter Tryz.func197,Tryz.ntmps197
 go_wp2_with (go_at_call 241;refine H.out.mono ?_;rintro e w1 ⟨rfl,v⟩)
 go_ret;exact⟨rfl,u.trans v⟩
theorem implIsWorld_of(x:Wd)(lo hi:Nat)(w:World)(h:RdW w lo hi x)
 (hIT:∀wx,Up w wx→Calls Tryz.prog 194 #[.agg #[.slice x.pl.A x.pl.l.length x.pl.c,.slice x.ws.A x.ws.l.length x.ws.c],.slice x.st.A x.st.l.length x.st.c] wx fun e w'=>e=.returned (.bool (itB x.pl.l x.ws.l x.st.l))∧Up wx w') :
 Calls Tryz.prog 155 #[x.val] w fun e w'=>e=.returned (.bool (wdB x.p))∧Up w w':=by
 obtain⟨b1,hb1⟩:∃z,z=chB x.rs.l x.fr x.to_:=⟨_,rfl⟩
 obtain⟨b2,hb2⟩:∃z,z=ppB x.ps.l x.ts.l:=⟨_,rfl⟩
 obtain⟨b3,hb3⟩:∃z,z=itB x.pl.l x.ws.l x.st.l:=⟨_,rfl⟩
 obtain⟨b4,hb4⟩:∃z,z=amB x.se.l:=⟨_,rfl⟩
 obtain⟨b5,hb5⟩:∃z,z=amB x.ha.l:=⟨_,rfl⟩
 have HE:=qh (show wdB x.p=(b1 && (b2 && (b3 && (b4 && b5)))) by unfold wdB;rw[hb1,hb2,hb3,hb4,hb5])
 have c1:=fun wx (u:Up w wx)=>implIsChancery_any x.rs x.fr x.to_ lo hi wx (h.rs.up u)
 have c2:=fun wx (u:Up w wx)=>implIsPeople_any x.ps x.ts lo hi wx (h.ps.up u) (h.ts.up u)
 have c3:=hIT
 have c4:=fun wx (u:Up w wx)=>implAreMarks_any x.se lo hi wx (h.se.up u)
 have c5:=fun wx (u:Up w wx)=>implAreMarks_any x.ha lo hi wx (h.ha.up u)
 simp only[← hb1]at c1
 simp only[← hb2]at c2
 simp only[← hb3]at c3
 simp only[← hb4]at c4
 simp only[← hb5]at c5
 have K1:=qh c1
 have K2:=qh c2
 have K3:=qh c3
 have K4:=qh c4
 have K5:=qh c5
 clear hb1 hb2 hb3 hb4 hb5 c1 c2 c3 c4 c5 h hIT;have u:=Up.alloc w (.cells #[.slice x.rs.A x.rs.l.length x.rs.c,.int .i64 x.fr,.int .i64 x.to_,.slice x.ps.A x.ps.l.length x.ps.c,.slice x.ts.A x.ts.l.length x.ts.c,.slice x.pl.A x.pl.l.length x.pl.c,.slice x.ws.A x.ws.l.length x.ws.c,.slice x.st.A x.st.l.length x.st.c,.slice x.se.A x.se.l.length x.se.c,.slice x.ha.A x.ha.l.length x.ha.c] 59)
 have hB:=Bx.new w #[.slice x.rs.A x.rs.l.length x.rs.c,.int .i64 x.fr,.int .i64 x.to_,.slice x.ps.A x.ps.l.length x.ps.c,.slice x.ts.A x.ts.l.length x.ts.c,.slice x.pl.A x.pl.l.length x.pl.c,.slice x.ws.A x.ws.l.length x.ws.c,.slice x.st.A x.st.l.length x.st.c,.slice x.se.A x.se.l.length x.se.c,.slice x.ha.A x.ha.l.length x.ha.c] 59
 go_enter Tryz.func155,Tryz.ntmps155
 go_wp2_with fail
 generalize w.alloc (.cells #[.slice x.rs.A x.rs.l.length x.rs.c,.int .i64 x.fr,.int .i64 x.to_,.slice x.ps.A x.ps.l.length x.ps.c,.slice x.ts.A x.ts.l.length x.ts.c,.slice x.pl.A x.pl.l.length x.pl.c,.slice x.ws.A x.ws.l.length x.ws.c,.slice x.st.A x.st.l.length x.st.c,.slice x.se.A x.se.l.length x.se.c,.slice x.ha.A x.ha.l.length x.ha.c] 59)=w0 at *
 obtain⟨x0,x1,x2,x3,x4,x5,x6,x7,x8,x9⟩:=hB.c10
 rcases b1 with _|_
 ·go_wp2_with first|(go_at_call 192;refine(K1.out _ u).mono ?_;rintro e wn ⟨rfl,v⟩;replace u:=u.trans v;replace hB:=hB.up v;clear v;obtain⟨x0,x1,x2,x3,x4,x5,x6,x7,x8,x9⟩:=hB.c10)|(go_at_call 193;refine(K2.out _ u).mono ?_;rintro e wn ⟨rfl,v⟩;replace u:=u.trans v;replace hB:=hB.up v;clear v;obtain⟨x0,x1,x2,x3,x4,x5,x6,x7,x8,x9⟩:=hB.c10)|(go_at_call 194;refine(K3.out _ u).mono ?_;rintro e wn ⟨rfl,v⟩;replace u:=u.trans v;replace hB:=hB.up v;clear v;obtain⟨x0,x1,x2,x3,x4,x5,x6,x7,x8,x9⟩:=hB.c10)|(go_at_call 195;(first|(with_reducible refine(K4.out _ u).mono ?_)|(with_reducible refine(K5.out _ u).mono ?_));rintro e wn ⟨rfl,v⟩;replace u:=u.trans v;replace hB:=hB.up v;clear v;obtain⟨x0,x1,x2,x3,x4,x5,x6,x7,x8,x9⟩:=hB.c10)
  go_ret;exact⟨ret_bool (by rw[HE.out];rfl),u⟩
 rcases b2 with _|_
 ·go_wp2_with first|(go_at_call 192;refine(K1.out _ u).mono ?_;rintro e wn ⟨rfl,v⟩;replace u:=u.trans v;replace hB:=hB.up v;clear v;obtain⟨x0,x1,x2,x3,x4,x5,x6,x7,x8,x9⟩:=hB.c10)|(go_at_call 193;refine(K2.out _ u).mono ?_;rintro e wn ⟨rfl,v⟩;replace u:=u.trans v;replace hB:=hB.up v;clear v;obtain⟨x0,x1,x2,x3,x4,x5,x6,x7,x8,x9⟩:=hB.c10)|(go_at_call 194;refine(K3.out _ u).mono ?_;rintro e wn ⟨rfl,v⟩;replace u:=u.trans v;replace hB:=hB.up v;clear v;obtain⟨x0,x1,x2,x3,x4,x5,x6,x7,x8,x9⟩:=hB.c10)|(go_at_call 195;(first|(with_reducible refine(K4.out _ u).mono ?_)|(with_reducible refine(K5.out _ u).mono ?_));rintro e wn ⟨rfl,v⟩;replace u:=u.trans v;replace hB:=hB.up v;clear v;obtain⟨x0,x1,x2,x3,x4,x5,x6,x7,x8,x9⟩:=hB.c10)
  go_ret;exact⟨ret_bool (by rw[HE.out];rfl),u⟩
 rcases b3 with _|_
 ·go_wp2_with first|(go_at_call 192;refine(K1.out _ u).mono ?_;rintro e wn ⟨rfl,v⟩;replace u:=u.trans v;replace hB:=hB.up v;clear v;obtain⟨x0,x1,x2,x3,x4,x5,x6,x7,x8,x9⟩:=hB.c10)|(go_at_call 193;refine(K2.out _ u).mono ?_;rintro e wn ⟨rfl,v⟩;replace u:=u.trans v;replace hB:=hB.up v;clear v;obtain⟨x0,x1,x2,x3,x4,x5,x6,x7,x8,x9⟩:=hB.c10)|(go_at_call 194;refine(K3.out _ u).mono ?_;rintro e wn ⟨rfl,v⟩;replace u:=u.trans v;replace hB:=hB.up v;clear v;obtain⟨x0,x1,x2,x3,x4,x5,x6,x7,x8,x9⟩:=hB.c10)|(go_at_call 195;(first|(with_reducible refine(K4.out _ u).mono ?_)|(with_reducible refine(K5.out _ u).mono ?_));rintro e wn ⟨rfl,v⟩;replace u:=u.trans v;replace hB:=hB.up v;clear v;obtain⟨x0,x1,x2,x3,x4,x5,x6,x7,x8,x9⟩:=hB.c10)
  go_ret;exact⟨ret_bool (by rw[HE.out];rfl),u⟩
 rcases b4 with _|_
 ·go_wp2_with first|(go_at_call 192;refine(K1.out _ u).mono ?_;rintro e wn ⟨rfl,v⟩;replace u:=u.trans v;replace hB:=hB.up v;clear v;obtain⟨x0,x1,x2,x3,x4,x5,x6,x7,x8,x9⟩:=hB.c10)|(go_at_call 193;refine(K2.out _ u).mono ?_;rintro e wn ⟨rfl,v⟩;replace u:=u.trans v;replace hB:=hB.up v;clear v;obtain⟨x0,x1,x2,x3,x4,x5,x6,x7,x8,x9⟩:=hB.c10)|(go_at_call 194;refine(K3.out _ u).mono ?_;rintro e wn ⟨rfl,v⟩;replace u:=u.trans v;replace hB:=hB.up v;clear v;obtain⟨x0,x1,x2,x3,x4,x5,x6,x7,x8,x9⟩:=hB.c10)|(go_at_call 195;(first|(with_reducible refine(K4.out _ u).mono ?_)|(with_reducible refine(K5.out _ u).mono ?_));rintro e wn ⟨rfl,v⟩;replace u:=u.trans v;replace hB:=hB.up v;clear v;obtain⟨x0,x1,x2,x3,x4,x5,x6,x7,x8,x9⟩:=hB.c10)
  go_ret;exact⟨ret_bool (by rw[HE.out];rfl),u⟩
 go_wp2_with first|(go_at_call 192;refine(K1.out _ u).mono ?_;rintro e wn ⟨rfl,v⟩;replace u:=u.trans v;replace hB:=hB.up v;clear v;obtain⟨x0,x1,x2,x3,x4,x5,x6,x7,x8,x9⟩:=hB.c10)|(go_at_call 193;refine(K2.out _ u).mono ?_;rintro e wn ⟨rfl,v⟩;replace u:=u.trans v;replace hB:=hB.up v;clear v;obtain⟨x0,x1,x2,x3,x4,x5,x6,x7,x8,x9⟩:=hB.c10)|(go_at_call 194;refine(K3.out _ u).mono ?_;rintro e wn ⟨rfl,v⟩;replace u:=u.trans v;replace hB:=hB.up v;clear v;obtain⟨x0,x1,x2,x3,x4,x5,x6,x7,x8,x9⟩:=hB.c10)|(go_at_call 195;(first|(with_reducible refine(K4.out _ u).mono ?_)|(with_reducible refine(K5.out _ u).mono ?_));rintro e wn ⟨rfl,v⟩;replace u:=u.trans v;replace hB:=hB.up v;clear v;obtain⟨x0,x1,x2,x3,x4,x5,x6,x7,x8,x9⟩:=hB.c10)
 go_ret;exact⟨ret_bool (by rw[HE.out];cases b5<;>rfl),u⟩
end Go.Proofs.YtihcmhmanfobcaaGreatDoor
