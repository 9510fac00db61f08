/- The spans of the days that are in both lists, by the reference and by the program. -/
import Derived.Test.YtihcmhmanfobcaaGreatDoorVc
set_option maxHeartbeats 4000000
set_option maxRecDepth 100000
namespace Go.Proofs.YtihcmhmanfobcaaGreatDoor
open Go.RowKit Go.Sort
theorem met_any(A B:Option Addr)(a b:List Sp)(ca cb lo hi lo' hi':Nat)(w:World)(hr:RdP w lo hi A a)(_hhi:hi≤w.heap.size)(hr':RdP w lo' hi' B b)(_hhi':hi'≤w.heap.size)(hn:a.length≤100000)(hn':b.length≤100000) :
 Calls Tryz.prog 67 #[.slice A a.length ca,.slice B b.length cb] w fun e w'=>∃v,e=.returned v∧w'.ownsRow w.heap.size 84 2 v (metL a b).length ((metL a b).flatMap spC)∧Up w w':=by
 obtain⟨i0,hi0,hz0,hz1,hz2⟩:=info_parts infoSp
 go_enter Tryz.func67,Tryz.ntmps67
 go_wp2;have hown0:=World.ownsRow_lit (base:=w.heap.size) (e:=84) (size:=2) w #[] 0 (Nat.le_refl _) (by simp[maxLen]) rfl
 have hup0:=(Up.refl w).allocs (.cells #[] 84)
 obtain⟨v0,hv0⟩:∃v,v=Value.slice (some ⟨w.heap.size,0,none⟩) 0 0:=⟨_,rfl⟩
 rw[← hv0]at hown0 ⊢
 generalize w.alloc (.cells #[] 84)=w2 at *
 clear hv0;go_loopw [5,6,7,8] (fun o i k bx wr=>∃p q:Nat,∃O:List Sp,p≤a.length∧q≤b.length∧i=.int .i64 p∧k=.int .i64 q∧metL a b=O++metL (a.drop p) (b.drop q)∧O.length≤p+q∧wr.ownsRow w.heap.size 84 2 o O.length (O.flatMap spC)∧Up w wr) (fun _ i k _ _=>(a.length+b.length)-((intOf i).toNat+(intOf k).toNat))
 case atStart=>exact⟨0,0,[],Nat.zero_le _,Nat.zero_le _,rfl,rfl,rfl,Nat.zero_le _,hown0,hup0⟩
 case round =>
  obtain⟨p,q,O,hp,hq,rfl,rfl,hO,hOn,hown,hup⟩:=hrel
  have HO:=qh hO
  clear hO;by_cases hlp:p<a.length
  ·by_cases hlq:q<b.length
   ·obtain⟨b1,o1,f1,t1,rfl,-,-,hd1,p0w,p1w⟩:=hr.sp hlp
    obtain⟨b2,o2,f2,t2,rfl,-,-,hd2,q0w,q1w⟩:=hr'.sp hlq
    have p0:=hup.cell p0w
    have p1:=hup.cell p1w
    have q0:=hup.cell q0w
    have q1:=hup.cell q1w
    clear p0w q0w;have HM:=qh (metL_step hd1 hd2)
    clear hd1 hd2;have hdr:Up wr wr.drew:=(Up.refl wr).drew
    obtain⟨A',c',rfl,hc',hm',-,-⟩:=own_form hown
    have hz:Up wr (wr.alloc (.cells #[.int .i64 0,.int .i64 0] 84)):=Up.alloc _ _
    have zp0:=hz.cell p0
    have zp1:=hz.cell p1
    have zq0:=hz.cell q0
    have zq1:=hz.cell q1
    go_wp2_with fail
    go_region
    generalize hmf:(if f1<f2 then f2 else f1)=mf
    generalize hmt:(if t2<t1 then t2 else t1)=mt
    have HMF:=qh (show mf=max f1 f2 by rw[← hmf];split<;>omega)
    have HMT:=qh (show mt=min t1 t2 by rw[← hmt];split<;>omega)
    rw[← HMF.out,← HMT.out]at HM;clear hmf hmt;have hbx:Up wr (wr.alloc (.cells #[.int .i64 mf,.int .i64 mt] 84)).drew:=((Up.refl wr).allocs _).drew
    have hd0:(wr.alloc (.cells #[.int .i64 mf,.int .i64 mt] 84)).drew.cell? ⟨wr.heap.size,0,none⟩=some (.int .i64 mf):=by go_simp
    have hd1:(wr.alloc (.cells #[.int .i64 mf,.int .i64 mt] 84)).drew.cell? ⟨wr.heap.size,1,none⟩=some (.int .i64 mt):=by go_simp
    clear hz zp0 zp1 zq0 zq1 hdr;generalize (wr.alloc (.cells #[.int .i64 mf,.int .i64 mt] 84)).drew=wa at *
    have ow:=own_up hown hbx
    have hupx:=hup.trans hbx
    clear p0 q0 p1 q1 hown;by_cases hc:mf≤mt<;>have HC:=qh hc
    ·have hc1:decide (mf≤mt)=true:=by simpa using hc
     have n1:O.length+1≤maxLen:=by unfold maxLen;omega
     have n2:(O.length+1)*16≤140737488355328:=by omega
     have n3:w.heap.size≤(wa.alloc (.cells #[.int .i64 mf,.int .i64 mt] 84)).heap.size:=(hupx.allocs _).size
     clear hc;go_wp2_with ((at_builtin;refine wpList_append_own _ rfl _ _ 76 rfl w.heap.size 84 i0 _ 2 16 Tryz.underlying76 hi0 hz0 hz1 hz2 rfl (by decide) _ _ _ rfl (ow.alloc _) ⟨wa.heap.size,0,none⟩ 1 1 [.int .i64 mf,.int .i64 mt] rfl rfl (cell_two_newP _ _ _ _) (by simp[Value.oneCell']) n1 n2 n3 ?_))
     intro v' w4 hown' hgrow _
     have hu4:=(hupx.allocs (.cells #[.int .i64 mf,.int .i64 mt] 84)).grown hgrow (fun k hk=>(ow.lt k hk).1)
     have rr:=hu4.cell p1w
     have ss:=hu4.cell q1w
     clear p1w q1w hgrow hd0 hd1 ow;have R1:=cell_regrown rr
     have S1:=cell_regrown ss
     go_wp2_with fail
     refine wp_region_quiet_below (by kernel_rfl) (by kernel_rfl) ?_
     repeat (first|go_big_quiet_step (fail)|quiet_step (fail))
     refine wpQuiet_nil ?_
     intro w7 hw7
     obtain⟨⟨dq,osq⟩,hw7⟩:=hw7
     have hup7:Up w4 w7:=by rw[hw7];exact below_regrown _ _ _
     have OW7:=qh (And.intro (own_up hown' hup7) (hu4.trans hup7))
     clear hw7 R1 S1 rr ss;by_cases hl:t1<t2<;>have HL:=qh hl
     ·have hl1:decide (t1<t2)=true:=by simpa using hl
      have FA:=qh (show metL a b=(O++[(mf,mt)])++metL (a.drop (p+1)) (b.drop (q)) by rw[HO.out,HM.out,if_pos HC.out,if_pos (show t1<t2 by have:=HL.out;omega)];simp)
      have FB:=qh (show(O++[(mf,mt)]).length≤(p+1)+(q) by rw[List.length_append,List.length_singleton];omega)
      have FC:Hid (w7.ownsRow w.heap.size 84 2 v' (O++[(mf,mt)]).length ((O++[(mf,mt)]).flatMap spC)):=qh (by have h7:=OW7.out.1;simpa[spC] using h7)
      go_wp2;go_roundw
      case rel=>exact⟨p+1,q,O++[(mf,mt)],by omega,by omega,by go_num,rfl,FA.out,FB.out,FC.out,OW7.out.2⟩
      case measure=>simp[intOf];omega
     ·have hl1:decide (t1<t2)=false:=by simpa using hl
      have FA:=qh (show metL a b=(O++[(mf,mt)])++metL (a.drop (p)) (b.drop (q+1)) by rw[HO.out,HM.out,if_pos HC.out,if_neg (show ¬ t1<t2 by have:=HL.out;omega)];simp)
      have FB:=qh (show(O++[(mf,mt)]).length≤(p)+(q+1) by rw[List.length_append,List.length_singleton];omega)
      have FC:Hid (w7.ownsRow w.heap.size 84 2 v' (O++[(mf,mt)]).length ((O++[(mf,mt)]).flatMap spC)):=qh (by have h7:=OW7.out.1;simpa[spC] using h7)
      go_wp2;go_roundw
      case rel=>exact⟨p,q+1,O++[(mf,mt)],by omega,by omega,rfl,by go_num,FA.out,FB.out,FC.out,OW7.out.2⟩
      case measure=>simp[intOf];omega
    ·have hc1:decide (mf≤mt)=false:=by simpa using hc
     have rr:=hupx.cell p1w
     have ss:=hupx.cell q1w
     clear hc p1w q1w;have R1:=cell_regrown rr
     have S1:=cell_regrown ss
     go_wp2_with fail
     refine wp_region_quiet_below (by kernel_rfl) (by kernel_rfl) ?_
     repeat (first|go_big_quiet_step (fail)|quiet_step (fail))
     refine wpQuiet_nil ?_
     intro w7 hw7
     obtain⟨⟨dq,osq⟩,hw7⟩:=hw7
     have hup7:Up wa w7:=by rw[hw7];exact below_regrown _ _ _
     have OW7:=qh (And.intro (own_up ow hup7) (hupx.trans hup7))
     clear hw7 R1 S1 rr ss;by_cases hl:t1<t2<;>have HL:=qh hl
     ·have hl1:decide (t1<t2)=true:=by simpa using hl
      have FA:=qh (show metL a b=(O)++metL (a.drop (p+1)) (b.drop (q)) by rw[HO.out,HM.out,if_neg (show ¬ mf≤mt by have:=HC.out;omega),if_pos (show t1<t2 by have:=HL.out;omega)];simp)
      have FB:=qh (show(O).length≤(p+1)+(q) by omega)
      have FC:Hid (w7.ownsRow w.heap.size 84 2 (.slice A' O.length c') (O).length ((O).flatMap spC)):=qh (by have h7:=OW7.out.1;exact h7)
      go_wp2;go_roundw
      case rel=>exact⟨p+1,q,O,by omega,by omega,by go_num,rfl,FA.out,FB.out,FC.out,OW7.out.2⟩
      case measure=>simp[intOf];omega
     ·have hl1:decide (t1<t2)=false:=by simpa using hl
      have FA:=qh (show metL a b=(O)++metL (a.drop (p)) (b.drop (q+1)) by rw[HO.out,HM.out,if_neg (show ¬ mf≤mt by have:=HC.out;omega),if_neg (show ¬ t1<t2 by have:=HL.out;omega)];simp)
      have FB:=qh (show(O).length≤(p)+(q+1) by omega)
      have FC:Hid (w7.ownsRow w.heap.size 84 2 (.slice A' O.length c') (O).length ((O).flatMap spC)):=qh (by have h7:=OW7.out.1;exact h7)
      go_wp2;go_roundw
      case rel=>exact⟨p,q+1,O,by omega,by omega,rfl,by go_num,FA.out,FB.out,FC.out,OW7.out.2⟩
      case measure=>simp[intOf];omega
   ·have hdq:decide ((q:Int)<(b.length:Int))=false:=by simp;omega
    have HE:=qh (show metL a b=O by rw[HO.out,metL_endr (by omega),List.append_nil])
    go_wp2;go_ret;exact⟨_,rfl,by rw[HE.out];exact hown,hup⟩
  ·have hdp:decide ((p:Int)<(a.length:Int))=false:=by simp;omega
   have HE:=qh (show metL a b=O by rw[HO.out,metL_endl (by omega),List.append_nil])
   go_wp2;go_ret;exact⟨_,rfl,by rw[HE.out];exact hown,hup⟩
end Go.Proofs.YtihcmhmanfobcaaGreatDoor
