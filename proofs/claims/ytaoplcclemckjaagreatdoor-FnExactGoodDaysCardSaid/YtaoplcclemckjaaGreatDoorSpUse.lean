/- The days on which a formula with some words is in use: the reference's and the program's walks. -/
import Derived.Test.YtaoplcclemckjaaGreatDoorVc
import Derived.Test.YtaoplcclemckjaaGreatDoorSpUni
import Derived.Test.YtaoplcclemckjaaGreatDoorFormsIn
set_option maxHeartbeats 4000000
set_option maxRecDepth 100000
namespace Go.Proofs.YtaoplcclemckjaaGreatDoor
open Go.RowKit Go.Sort
def useL(ps:List FmP)(W:List ByteArray):List Sp:=(ps.filter fun p=>alL p.1 W).map fun p=>(p.2.1,p.2.2)
theorem useL_yes{l:List Fm}{k:Nat}{x:Fm}{W:List ByteArray}(h:l[k]?=some x)(ha:alL x.ws W=true):useL ((l.take (k+1)).map Fm.p) W=useL ((l.take k).map Fm.p) W++[(x.fr,x.to_)]:=by
 rw[List.take_succ_eq_append_getElem (List.getElem?_eq_some_iff.1 h).1,(List.getElem?_eq_some_iff.1 h).2];unfold useL
 rw[List.map_append,List.filter_append,List.map_append];simp[Fm.p,ha]
theorem useL_no{l:List Fm}{k:Nat}{x:Fm}{W:List ByteArray}(h:l[k]?=some x)(ha:alL x.ws W=false):useL ((l.take (k+1)).map Fm.p) W=useL ((l.take k).map Fm.p) W:=by
 rw[List.take_succ_eq_append_getElem (List.getElem?_eq_some_iff.1 h).1,(List.getElem?_eq_some_iff.1 h).2];unfold useL
 rw[List.map_append,List.filter_append,List.map_append];simp[Fm.p,ha]
theorem useL_len(ps:List FmP)(W:List ByteArray):(useL ps W).length≤ps.length:=by unfold useL;rw[List.length_map];exact List.length_filter_le _ _
theorem fmB_span{p:FmP}(h:fmB p=true):0≤p.2.1∧p.2.1≤p.2.2∧p.2.2≤730499:=by
 unfold fmB at h
 simp only[Bool.and_eq_true,decide_eq_true_eq]at h
 have:=h.2.2
 simp only[spanB,dayB,inB,Bool.and_eq_true,decide_eq_true_eq]at this
 omega
theorem useL_ok{ps:List FmP}{W:List ByteArray}(h:∀p∈ps,fmB p=true):BdS (useL ps W)∧OkS (useL ps W):=by
 have key:∀s∈useL ps W,0≤s.1∧s.1≤s.2∧s.2≤730499:=by
  intro s hs
  obtain⟨p,hp,rfl⟩:=List.mem_map.1 hs
  exact fmB_span (h p (List.mem_filter.1 hp).1)
 exact⟨fun s hs=>by have:=key s hs;omega,fun s hs=>(key s hs).2.1⟩
def setL(ps:List FmP)(W:List ByteArray):List Sp:=unL (useL ps W)
theorem setL_len(ps:List FmP)(W:List ByteArray):(setL ps W).length≤ps.length:=Nat.le_trans (unL_len _) (useL_len _ _)
theorem specUse_any(A B:Option Addr)(l:List Fm)(W:List ByteArray)(ca cb lo hi lo' hi':Nat)(w:World)(hr:RdF w lo hi A l)(hhi:hi≤w.heap.size)(hr':RdT w lo' hi' B W)(hhi':hi'≤w.heap.size)
 (hW:∀x∈W,x.size<32) (hn':W.length≤2000000) (hf:∀x∈l,fmB x.p=true) (hn:l.length≤100000) :
 Calls Tryz.prog 137 #[.slice A l.length ca,.slice B W.length cb] w fun e w'=>∃v,e=.returned v∧w'.ownsRow w.heap.size 83 2 v (setL (l.map Fm.p) W).length ((setL (l.map Fm.p) W).flatMap spC)∧Up w w':=by
 obtain⟨i0,hi0,hz0,hz1,hz2⟩:=info_parts infoSp
 have HW:=qh hW
 have HF:=qh hf
 clear hW hf;go_enter Tryz.func137,Tryz.ntmps137
 go_wp2;have hown0:=World.ownsRow_lit (base:=w.heap.size) (e:=83) (size:=2) w #[] 0 (Nat.le_refl _) (by simp[maxLen]) rfl
 have hup0:=(Up.refl w).allocs (.cells #[] 83)
 obtain⟨v0,hv0⟩:∃v,v=Value.slice (some ⟨w.heap.size,0,none⟩) 0 0:=⟨_,rfl⟩
 rw[← hv0]at hown0 ⊢
 generalize w.alloc (.cells #[] 83)=w2 at *
 clear hv0;go_loopw [5,6] (fun o i wr=>∃k:Nat,∃O:List Sp,k≤l.length∧i=.int .i64 k∧O=useL ((l.take k).map Fm.p) W∧O.length≤k∧wr.ownsRow w.heap.size 83 2 o O.length (O.flatMap spC)∧Up w wr) (fun _ i _=>l.length-(intOf i).toNat)
 case atStart=>exact⟨0,[],Nat.zero_le _,rfl,rfl,Nat.zero_le _,hown0,hup0⟩
 case round =>
  obtain⟨k,O,hk,rfl,hO,hOn,hown,hup⟩:=hrel
  have HO:=qh hO
  clear hO;obtain⟨Ao,co,rfl,hco,hcm,-,-⟩:=own_form hown
  by_cases hlt:k<l.length
  ·obtain⟨b,off,d,rfl,hlo,hb,hd,hin,q0,q1,q2⟩:=(hr.up hup hhi).at_ hlt
   have HD:=qh hd
   have hsd:=fmB_small (HF.out d (List.mem_of_getElem? hd))
   clear hd;obtain⟨bb,hbb⟩:∃bb,bb=alL d.ws W:=⟨_,rfl⟩
   have hC:=l24Alike_any d.A B d.ws W d.c cb lo hi lo' hi' wr hin (Nat.le_trans hhi hup.size) (hr'.up hup hhi') (Nat.le_trans hhi' hup.size) hsd.1 HW.out (by have:=hsd.2.1;simp only[Fm.p]at this;omega) hn'
   rw[← hbb]at hC;have HC:=qh hC
   have HB:=qh hbb
   clear hC hbb hsd hin;cases bb
   ·go_wp2_with fail
    refine HC.out.mono ?_
    rintro e w3 ⟨rfl,hup3⟩
    have hown3:=own_up hown hup3
    have hupx:=hup.trans hup3
    go_wp2;go_roundw
    case rel=>exact⟨k+1,O,by omega,by go_num,by rw[useL_no HD.out HB.out.symm];exact HO.out,by omega,hown3,hupx⟩
    case measure=>simp[intOf];omega
   ·go_wp2_with fail
    refine HC.out.mono ?_
    rintro e w3 ⟨rfl,hup3⟩
    have hown3:=own_up hown hup3
    have hupx:=hup.trans hup3
    have r1:=hup3.cell q1
    have r2:=hup3.cell q2
    have n1:O.length+1≤maxLen:=by unfold maxLen;omega
    have n2:(O.length+1)*16≤140737488355328:=by omega
    have hal:=hupx.allocs (.cells #[.int .i64 d.fr,.int .i64 d.to_] 83)
    have hzm:(Value.agg #[.int .i64 0,.int .i64 0]).cells.size=2:=rfl
    have HOA:=qh (hown3.alloc (.cells #[.int .i64 d.fr,.int .i64 d.to_] 83))
    have HCN:=qh (cell_two_newP w3 (.int .i64 d.fr) (.int .i64 d.to_) 83)
    have HON:Hid (∀u∈[Value.int .i64 d.fr,.int .i64 d.to_],u.oneCell'=true):=qh (by simp[Value.oneCell'])
    clear q0 q1 q2 hown;go_wp2_with fail
    go_region_law (first
     |(refine step_append_ownP _ rfl (.tmp 21) (.tmp 33) 43 rfl w.heap.size 83 i0 _ 2 16 Tryz.underlying43 hi0 hz0 hz1 hz2 hzm (by decide) (.slice Ao O.length co) O.length (O.flatMap spC) (by simp[Act.eval]) HOA.out ⟨w3.heap.size,0,none⟩ 1 1 [.int .i64 d.fr,.int .i64 d.to_] (by simp[Act.eval]) rfl HCN.out HON.out n1 n2 hal.size ?_
       intro v2 w4 hown2 hgrow
       have hu4:=(hal.drew).grown hgrow (fun k hk=>(hown3.lt k hk).1)
       have hown':=hown2))
    all_goals
     clear hgrow hown2 hown3 r1 r2;go_wp2;go_roundw
     case rel=>exact⟨k+1,O++[(d.fr,d.to_)],by omega,by go_num,by rw[useL_yes HD.out HB.out.symm,HO.out],by simp;omega,by simpa[spC] using hown',hu4⟩
     case measure=>simp[intOf];omega
  ·obtain rfl:k=l.length:=by omega
   have hfin:O=useL (l.map Fm.p) W:=by rw[HO.out,List.take_of_length_le (Nat.le_refl _)]
   have hok:=useL_ok (ps:=l.map Fm.p) (W:=W) (fun p hp=>by obtain⟨x,hx,rfl⟩:=List.mem_map.1 hp;exact HF.out x hx)
   rw[← hfin]at hok;have HM:=qh (specMake_any Ao O co w.heap.size wr.heap.size wr (Rd.own spC_len hown) (Nat.le_refl _) (by omega) hok.1)
   have HE:=qh (show setL (l.map Fm.p) W=unL O by rw[hfin];rfl)
   clear hfin hok;go_wp2_with fail
   refine HM.out.mono ?_
   rintro e w3 ⟨v,rfl,ho,hu3⟩
   have HO3:=qh (own_base ho hup.size)
   clear ho;go_wp2;go_ret;exact⟨v,rfl,by rw[HE.out];exact HO3.out,hup.trans hu3⟩
theorem wordsDays_any(A B:Option Addr)(l:List Fm)(W:List ByteArray)(ca cb lo hi lo' hi':Nat)(w:World)(hr:RdF w lo hi A l)(hhi:hi≤w.heap.size)(hr':RdT w lo' hi' B W)(hhi':hi'≤w.heap.size)
 (hW:∀x∈W,x.size<32) (hn':W.length≤2000000) (hf:∀x∈l,fmB x.p=true) (hn:l.length≤100000) (hne:∃x∈l,alL x.ws W=true) :
 Calls Tryz.prog 107 #[.slice A l.length ca,.slice B W.length cb] w fun e w'=>∃v,e=.returned v∧w'.ownsRow w.heap.size 83 2 v (setL (l.map Fm.p) W).length ((setL (l.map Fm.p) W).flatMap spC)∧Up w w':=by
 obtain⟨i0,hi0,hz0,hz1,hz2⟩:=info_parts infoSp
 have HW:=qh hW
 have HF:=qh hf
 have HNE:Hid (0<(useL (l.map Fm.p) W).length):=qh (by
  obtain⟨x,hx,hx2⟩:=hne
  unfold useL;rw[List.length_map]
  exact List.length_pos_of_mem (List.mem_filter.2 ⟨List.mem_map_of_mem hx,hx2⟩))
 clear hW hf hne;go_enter Tryz.func107,Tryz.ntmps107
 go_wp2;have hown0:=World.ownsRow_lit (base:=w.heap.size) (e:=83) (size:=2) w #[] 0 (Nat.le_refl _) (by simp[maxLen]) rfl
 have hup0:=(Up.refl w).allocs (.cells #[] 83)
 obtain⟨v0,hv0⟩:∃v,v=Value.slice (some ⟨w.heap.size,0,none⟩) 0 0:=⟨_,rfl⟩
 rw[← hv0]at hown0 ⊢
 generalize w.alloc (.cells #[] 83)=w2 at *
 clear hv0;go_loopw [5,7,11] (fun o bx i wr=>∃k:Nat,∃O:List Sp,k≤l.length∧i=.int .i64 k∧O=useL ((l.take k).map Fm.p) W∧O.length≤k∧wr.ownsRow w.heap.size 83 2 o O.length (O.flatMap spC)∧Up w wr) (fun _ _ i _=>l.length-(intOf i).toNat)
 case atStart=>exact⟨0,[],Nat.zero_le _,rfl,rfl,Nat.zero_le _,hown0,hup0⟩
 case round =>
  obtain⟨k,O,hk,rfl,hO,hOn,hown,hup⟩:=hrel
  have HO:=qh hO
  clear hO;obtain⟨Ao,co,rfl,hco,hcm,-,-⟩:=own_form hown
  by_cases hlt:k<l.length
  ·obtain⟨b,off,d,rfl,hlo,hb,hd,hin,q0,q1,q2⟩:=(hr.up hup hhi).at_ hlt
   have HD:=qh hd
   have hsd:=fmB_small (HF.out d (List.mem_of_getElem? hd))
   clear hd;have hub:=Up.alloc wr (.cells #[.slice d.A d.ws.length d.c,.int .i64 d.fr,.int .i64 d.to_] 119)
   have c1:(wr.alloc (.cells #[.slice d.A d.ws.length d.c,.int .i64 d.fr,.int .i64 d.to_] 119)).cell? ⟨wr.heap.size,1,none⟩=some (.int .i64 d.fr):=by go_simp
   have c2:(wr.alloc (.cells #[.slice d.A d.ws.length d.c,.int .i64 d.fr,.int .i64 d.to_] 119)).cell? ⟨wr.heap.size,2,none⟩=some (.int .i64 d.to_):=by go_simp
   have hupb:=hup.trans hub
   obtain⟨bb,hbb⟩:∃bb,bb=alL d.ws W:=⟨_,rfl⟩
   have hC:=allAlike_any d.A B d.ws W d.c cb lo hi lo' hi' _ (hin.up hub (Nat.le_trans hhi hup.size)) (Nat.le_trans hhi hupb.size) (hr'.up hupb hhi') (Nat.le_trans hhi' hupb.size) hsd.1 HW.out (by have:=hsd.2.1;simp only[Fm.p]at this;omega) hn'
   rw[← hbb]at hC;have HC:=qh hC
   have HB:=qh hbb
   clear hC hbb hsd hin;cases bb
   ·go_wp2_with fail
    refine HC.out.mono ?_
    rintro e w3 ⟨rfl,hup3⟩
    have hown3:=own_up (own_up hown hub) hup3
    have hupx:=hupb.trans hup3
    go_wp2;go_roundw
    case rel=>exact⟨k+1,O,by omega,by go_num,by rw[useL_no HD.out HB.out.symm];exact HO.out,by omega,hown3,hupx⟩
    case measure=>simp[intOf];omega
   ·go_wp2_with fail
    refine HC.out.mono ?_
    rintro e w3 ⟨rfl,hup3⟩
    have hown3:=own_up (own_up hown hub) hup3
    have hupx:=hupb.trans hup3
    have r1:=hup3.cell c1
    have r2:=hup3.cell c2
    have n1:O.length+1≤maxLen:=by unfold maxLen;omega
    have n2:(O.length+1)*16≤140737488355328:=by omega
    have n3:w.heap.size≤(w3.alloc (.cells #[.int .i64 d.fr,.int .i64 d.to_] 83)).heap.size:=(hupx.allocs _).size
    clear q0 q1 q2 hown c1 c2;go_wp2_with ((at_builtin;refine wpList_append_own _ rfl _ _ 43 rfl w.heap.size 83 i0 _ 2 16 Tryz.underlying43 hi0 hz0 hz1 hz2 rfl (by decide) _ _ _ rfl (hown3.alloc _) ⟨w3.heap.size,0,none⟩ 1 1 [.int .i64 d.fr,.int .i64 d.to_] rfl rfl (cell_two_newP _ _ _ _) (by simp[Value.oneCell']) n1 n2 n3 ?_))
    intro v' w4 hown' hgrow _
    have hu4:=(hupx.allocs (.cells #[.int .i64 d.fr,.int .i64 d.to_] 83)).grown hgrow (fun k hk=>(hown3.lt k hk).1)
    clear hgrow hown3 r1 r2;go_wp2;go_roundw
    case rel=>exact⟨k+1,O++[(d.fr,d.to_)],by omega,by go_num,by rw[useL_yes HD.out HB.out.symm,HO.out],by simp;omega,by simpa[spC] using hown',hu4⟩
    case measure=>simp[intOf];omega
  ·obtain rfl:k=l.length:=by omega
   have hfin:O=useL (l.map Fm.p) W:=by rw[HO.out,List.take_of_length_le (Nat.le_refl _)]
   have hok:=useL_ok (ps:=l.map Fm.p) (W:=W) (fun p hp=>by obtain⟨x,hx,rfl⟩:=List.mem_map.1 hp;exact HF.out x hx)
   have hpos:=HNE.out
   rw[← hfin]at hok hpos;have HM:=qh (united_any Ao O co w.heap.size wr.heap.size wr (Rd.own spC_len hown) (Nat.le_refl _) (by omega) hpos hok.1 hok.2)
   have HE:=qh (show setL (l.map Fm.p) W=unL O by rw[hfin];rfl)
   clear hfin hok hpos;go_wp2_with fail
   refine HM.out.mono ?_
   rintro e w3 ⟨v,rfl,ho,hu3⟩
   have HO3:=qh (own_base ho hup.size)
   clear ho;go_wp2;go_ret;exact⟨v,rfl,by rw[HE.out];exact HO3.out,hup.trans hu3⟩
end Go.Proofs.YtaoplcclemckjaaGreatDoor
