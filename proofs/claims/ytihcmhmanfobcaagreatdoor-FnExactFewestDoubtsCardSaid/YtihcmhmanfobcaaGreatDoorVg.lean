/- The days of a mark by the reference: how many, and that there are some where a mark has the name. -/
import Derived.Test.YtihcmhmanfobcaaGreatDoorVd
import Derived.Test.YtihcmhmanfobcaaGreatDoorVc
import Derived.Test.YtihcmhmanfobcaaGreatDoorSpUni
import Derived.Test.YtihcmhmanfobcaaGreatDoorVe
import Derived.Test.YtihcmhmanfobcaaGreatDoorVf
import Derived.BigRegion
set_option maxHeartbeats 8000000
set_option maxRecDepth 100000
namespace Go.Proofs.YtihcmhmanfobcaaGreatDoor
open Go.RowKit Go.Sort
def mkL(l:List Nm)(s:ByteArray):List Sp:=(l.filter fun x=>x.nm.toList==s.toList).map fun x=>(x.fr,x.to_)
theorem mkL_yes{l:List Nm}{s:ByteArray}{k:Nat}{d:Nm}(hd:l[k]?=some d)(h:(d.nm.toList==s.toList)=true):mkL (l.take (k+1)) s=mkL (l.take k) s++[(d.fr,d.to_)]:=by
 unfold mkL
 rw[List.take_succ_eq_append_getElem (List.getElem?_eq_some_iff.1 hd).1,(List.getElem?_eq_some_iff.1 hd).2,List.filter_append,List.map_append];simp[h]
theorem mkL_no{l:List Nm}{s:ByteArray}{k:Nat}{d:Nm}(hd:l[k]?=some d)(h:(d.nm.toList==s.toList)=false):mkL (l.take (k+1)) s=mkL (l.take k) s:=by
 unfold mkL
 rw[List.take_succ_eq_append_getElem (List.getElem?_eq_some_iff.1 hd).1,(List.getElem?_eq_some_iff.1 hd).2,List.filter_append,List.map_append];simp[h]
theorem mkL_nil(l:List Nm)(s:ByteArray):decide (0<(unL (mkL l s)).length)=nmIn l s:=by
 unfold nmIn
 by_cases h:∃x∈l,(x.nm.toList==s.toList)=true
 ·obtain⟨x,hx,hx2⟩:=h
  rw[List.any_eq_true.2 ⟨x,hx,hx2⟩,decide_eq_true_eq]
  rcases Nat.eq_zero_or_pos (unL (mkL l s)).length with h0|h0
  ·exfalso
   have:=unL_nil.1 (List.eq_nil_of_length_eq_zero h0)
   have hm:(x.fr,x.to_)∈mkL l s:=List.mem_map_of_mem (List.mem_filter.2 ⟨hx,hx2⟩)
   rw[this]at hm;simp at hm
  ·exact h0
 ·have h1:l.any (fun x=>x.nm.toList==s.toList)=false:=by
   rw[List.any_eq_false];intro x hx hx2;exact h ⟨x,hx,hx2⟩
  rw[h1,decide_eq_false_iff_not];have:mkL l s=[]:=by
   unfold mkL
   rw[List.filter_eq_nil_iff.2 (fun x hx hx2=>h ⟨x,hx,hx2⟩)];rfl
  rw[this];simp[unL,srtS]
theorem l16Days_any(s:Sl Nm)(nm:ByteArray)(lo hi:Nat)(w:World)(h:SrNm w lo hi s)(hn':s.l.length≤100000)(hd':∀d∈s.l,spanB d.fr d.to_=true) :
 Calls Tryz.prog 54 #[.slice s.A s.l.length s.c,.string nm] w fun e w'=>∃v,e=.returned v∧w'.ownsRow w.heap.size 84 2 v (unL (mkL s.l nm)).length ((unL (mkL s.l nm)).flatMap spC)∧Up w w':=by
 obtain⟨A,c,l⟩:=s
 have hr:=h.rd
 have hhi:=h.hhi
 have hn:l.length≤100000:=hn'
 have HDY:=qh (show ∀d∈l,spanB d.fr d.to_=true from hd')
 obtain⟨i0,hi0,hz0,hz1,hz2⟩:=info_parts infoSp
 clear h hn' hd';show Calls _ _ #[.slice A l.length c,_] _ fun e w'=>∃v,e=.returned v∧w'.ownsRow w.heap.size 84 2 v (unL (mkL l nm)).length ((unL (mkL l nm)).flatMap spC)∧Up w w'
 go_enter Tryz.func54,Tryz.ntmps54
 go_wp2;have hown0:=World.ownsRow_lit (base:=w.heap.size) (e:=84) (size:=2) w #[] 0 (Nat.le_refl _) (by simp[maxLen]) rfl
 have hup0:=(Up.refl w).allocs (.cells #[] 84)
 obtain⟨v0,hv0⟩:∃v,v=Value.slice (some ⟨w.heap.size,0,none⟩) 0 0:=⟨_,rfl⟩
 rw[← hv0]at hown0 ⊢
 generalize w.alloc (.cells #[] 84)=w2 at *
 clear hv0;go_loopw [5,6] (fun o i wr=>∃k:Nat,∃O:List Sp,k≤l.length∧i=.int .i64 k∧O=mkL (l.take k) nm∧O.length≤k∧wr.ownsRow w.heap.size 84 2 o O.length (O.flatMap spC)∧Up w wr) (fun _ i _=>l.length-(intOf i).toNat)
 case atStart=>exact⟨0,[],Nat.zero_le _,rfl,rfl,Nat.zero_le _,hown0,hup0⟩
 case round =>
  obtain⟨k,O,hk,rfl,hO,hOn,hown,hup⟩:=hrel
  have HO:=qh hO
  clear hO;obtain⟨Ao,co,rfl,hco,hcm,-,-⟩:=own_form hown
  by_cases hlt:k<l.length
  ·obtain⟨b,off,d,rfl,hlo,hb,hd,q0,q1,q2⟩:=(hr.up hup hhi).nm hlt
   have HD:=qh hd
   clear hd;rcases he:(d.nm.toList==nm.toList) with _|_
   ·have HT:=qh he
    go_wp2;go_roundw
    case rel=>exact⟨k+1,O,by omega,by go_num,by rw[mkL_no HD.out HT.out];exact HO.out,by omega,hown,hup⟩
    case measure=>simp[intOf];omega
   ·have HT:=qh he
    have n1:O.length+1≤maxLen:=by unfold maxLen;omega
    have n2:(O.length+1)*16≤140737488355328:=by omega
    have hal:=hup.allocs (.cells #[.int .i64 d.fr,.int .i64 d.to_] 84)
    have hzm:(Value.agg #[.int .i64 0,.int .i64 0]).cells.size=2:=rfl
    have HOA:=qh (hown.alloc (.cells #[.int .i64 d.fr,.int .i64 d.to_] 84))
    have HCN:=qh (cell_two_newP wr (.int .i64 d.fr) (.int .i64 d.to_) 84)
    have HON:Hid (∀u∈[Value.int .i64 d.fr,.int .i64 d.to_],u.oneCell'=true):=qh (by simp[Value.oneCell'])
    go_wp2_with fail
    clear q0;go_region_law (first
     |(refine step_append_ownP _ rfl (.tmp 21) (.tmp 33) 76 rfl w.heap.size 84 i0 _ 2 16 Tryz.underlying76 hi0 hz0 hz1 hz2 hzm (by decide) (.slice Ao O.length co) O.length (O.flatMap spC) (by simp[Act.eval]) HOA.out ⟨wr.heap.size,0,none⟩ 1 1 [.int .i64 d.fr,.int .i64 d.to_] (by simp[Act.eval]) rfl HCN.out HON.out n1 n2 hal.size ?_
       intro v2 w4 hown2 hgrow
       have hu4:=(hal.drew).grown hgrow (fun k hk=>(hown.lt k hk).1)
       have hown':=hown2))
    all_goals
     clear hgrow hown2 hown q1 q2;go_wp2;go_roundw
     case rel=>exact⟨k+1,O++[(d.fr,d.to_)],by omega,by go_num,by rw[mkL_yes HD.out HT.out,HO.out],by simp;omega,by simpa[spC] using hown',hu4⟩
     case measure=>simp[intOf];omega
  ·obtain rfl:k=l.length:=by omega
   have hfin:O=mkL l nm:=by rw[HO.out,List.take_of_length_le (Nat.le_refl _)]
   have hbd:BdS O:=fun s hs=>by
    rw[hfin]at hs;unfold mkL at hs
    obtain⟨x,hx,rfl⟩:=List.mem_map.1 hs
    have:=HDY.out x (List.mem_filter.1 hx).1
    simp only[spanB,dayB,Bool.and_eq_true,inB_iff,decide_eq_true_eq]at this
    simp only[]
    omega
   have HM:=qh (specMake_any Ao O co w.heap.size wr.heap.size wr (Rd.own spC_len hown) (Nat.le_refl _) (by omega) hbd)
   have HE:=qh hfin
   clear hfin hbd;go_wp2_with fail
   refine HM.out.mono ?_
   rintro e w3 ⟨v,rfl,ho,hu3⟩
   have HO3:=qh (own_base ho hup.size)
   clear ho;go_wp2;go_ret;exact⟨v,rfl,by rw[← HE.out];exact HO3.out,hup.trans hu3⟩
theorem insertion0_any(A:Option Addr)(c:Nat)(f:Value)(w:World) :
 Calls Tryz.prog 295 #[.slice A 0 c,.int .i64 0,.int .i64 0,f] w fun e w'=>e=.returned (.tuple #[])∧w=w':=by
 go_enter Tryz.func295,Tryz.ntmps295
 go_wp2;go_loop [8] (fun i=>i=.int .i64 1) (fun _=>0)
 case atStart=>rfl
 case round =>
  subst hrel;go_wp2
  first|go_end0|(simp only[Exit.inBlock,Exit.then];refine bodyPost_ret (results_none rfl _ _ _) rfl ?_)|refine bodyPost_ret (results_none rfl _ _ _) rfl ?_
  exact⟨rfl,rfl⟩
theorem pdq0_any(A:Option Addr)(c:Nat)(f:Value)(n:Int)(w:World) :
 Calls Tryz.prog 258 #[.slice A 0 c,.int .i64 0,.int .i64 0,.int .i64 n,f] w fun e w'=>e=.returned (.tuple #[])∧w=w':=by
 go_enter Tryz.func258,Tryz.ntmps258
 go_wp2;go_loop [1,2,3,10,11,12] (fun a b c d e _=>a=.int .i64 0∧b=.int .i64 0) (fun _ _ _ _ _ _=>0)
 case atStart=>exact⟨rfl,rfl⟩
 case round =>
  obtain⟨rfl,rfl⟩:=hrel
  go_wp2_with (go_at_call 295;refine(insertion0_any _ _ _ _).mono ?_;rintro e w' ⟨rfl,rfl⟩)
  first|go_end0|(simp only[Exit.inBlock,Exit.then];refine bodyPost_ret (results_none rfl _ _ _) rfl ?_)|refine bodyPost_ret (results_none rfl _ _ _) rfl ?_
  exact⟨rfl,rfl⟩
theorem sort0_any(A:Option Addr)(c:Nat)(f:Value)(w:World) :
 Calls Tryz.prog 220 #[.slice A 0 c,f] w fun e w'=>e=.returned (.tuple #[])∧w=w':=by
 have cL:=fun wx=>Tryz.bits_Len 0 wx (by omega) (by omega)
 go_enter Tryz.func220,Tryz.ntmps220
 go_wp2_with first|(go_at_call 66;refine(cL _).mono ?_;rintro e w' ⟨rfl,rfl⟩)|(go_at_call 258;refine(pdq0_any _ _ _ _ _).mono ?_;rintro e w' ⟨rfl,rfl⟩)
 first|go_end0|(simp only[Exit.inBlock,Exit.then];refine bodyPost_ret (results_none rfl _ _ _) rfl ?_)|refine bodyPost_ret (results_none rfl _ _ _) rfl ?_
 exact⟨rfl,rfl⟩
theorem united0_any(A:Option Addr)(c lo hi:Nat)(w:World)(hr:RdP w lo hi A [])(hhi:hi≤w.heap.size) :
 Calls Tryz.prog 168 #[.slice A 0 c] w fun e w'=>∃v,e=.returned v∧w'.ownsRow w.heap.size 84 2 v 0 []∧Up w w':=by
 have HCL:=qh (cloneSp_any A [] c lo hi w hr hhi (by simp))
 go_enter Tryz.func168,Tryz.ntmps168
 go_wp2_with fail
 refine HCL.out.mono ?_
 rintro e w1 ⟨v,rfl,hown,hup1⟩
 obtain⟨A1,c1,rfl,hc1,hm1,-,-⟩:=own_form hown
 clear hown HCL;go_wp2_with (go_at_call 220;refine(sort0_any _ _ _ _).mono ?_;rintro e w2 ⟨rfl,rfl⟩)
 have hown1:=World.ownsRow_lit (base:=w.heap.size) (e:=84) (size:=2) w1 #[] 0 hup1.size (by simp[maxLen]) rfl
 have hup2:=hup1.allocs (.cells #[] 84)
 obtain⟨v1,hv1⟩:∃v,v=Value.slice (some ⟨w1.heap.size,0,none⟩) 0 0:=⟨_,rfl⟩
 rw[← hv1]at hown1 ⊢
 have HO:=qh hown1
 have HU:=qh hup2
 generalize w1.alloc (.cells #[] 84)=w3 at *
 clear hv1 hown1 hup2;go_loop [4,6,7,15] (fun o bx la i=>o=v1∧i=.int .i64 0) (fun _ _ _ _=>0)
 case atStart=>exact⟨rfl,rfl⟩
 case round =>
  obtain⟨rfl,rfl⟩:=hrel
  go_wp2;go_ret;exact⟨_,rfl,HO.out,HU.out⟩
theorem unitedA_any(A:Option Addr)(l:List Sp)(c lo hi:Nat)(w:World)(hr:RdP w lo hi A l)(hhi:hi≤w.heap.size)(hn:l.length≤100000)(hbd:BdS l)(hok:OkS l) :
 Calls Tryz.prog 168 #[.slice A l.length c] w fun e w'=>∃v,e=.returned v∧w'.ownsRow w.heap.size 84 2 v (unL l).length ((unL l).flatMap spC)∧Up w w':=by
 rcases Nat.eq_zero_or_pos l.length with h|h
 ·obtain rfl:l=[]:=List.eq_nil_of_length_eq_zero h
  rw[unL_nil.2 rfl];exact united0_any A c lo hi w hr hhi
 ·exact united_any A l c lo hi w hr hhi hn h hbd hok
theorem markDays_any(s:Sl Nm)(nm:ByteArray)(lo hi:Nat)(w:World)(h:SrNm w lo hi s)(hn':s.l.length≤100000)(hd':∀d∈s.l,spanB d.fr d.to_=true) :
 Calls Tryz.prog 120 #[.slice s.A s.l.length s.c,.string nm] w fun e w'=>∃v,e=.returned v∧w'.ownsRow w.heap.size 84 2 v (unL (mkL s.l nm)).length ((unL (mkL s.l nm)).flatMap spC)∧Up w w':=by
 obtain⟨A,c,l⟩:=s
 have hr:=h.rd
 have hhi:=h.hhi
 have hn:l.length≤100000:=hn'
 have HDY:=qh (show ∀d∈l,spanB d.fr d.to_=true from hd')
 obtain⟨i0,hi0,hz0,hz1,hz2⟩:=info_parts infoSp
 clear h hn' hd';show Calls _ _ #[.slice A l.length c,_] _ fun e w'=>∃v,e=.returned v∧w'.ownsRow w.heap.size 84 2 v (unL (mkL l nm)).length ((unL (mkL l nm)).flatMap spC)∧Up w w'
 go_enter Tryz.func120,Tryz.ntmps120
 go_wp2;have hown0:=World.ownsRow_lit (base:=w.heap.size) (e:=84) (size:=2) w #[] 0 (Nat.le_refl _) (by simp[maxLen]) rfl
 have hup0:=(Up.refl w).allocs (.cells #[] 84)
 obtain⟨v0,hv0⟩:∃v,v=Value.slice (some ⟨w.heap.size,0,none⟩) 0 0:=⟨_,rfl⟩
 rw[← hv0]at hown0 ⊢
 generalize w.alloc (.cells #[] 84)=w2 at *
 clear hv0;go_loopw [5,7,11] (fun o bx i wr=>∃k:Nat,∃O:List Sp,k≤l.length∧i=.int .i64 k∧O=mkL (l.take k) nm∧O.length≤k∧wr.ownsRow w.heap.size 84 2 o O.length (O.flatMap spC)∧Up w wr) (fun _ _ i _=>l.length-(intOf i).toNat)
 case atStart=>exact⟨0,[],Nat.zero_le _,rfl,rfl,Nat.zero_le _,hown0,hup0⟩
 case round =>
  obtain⟨k,O,hk,rfl,hO,hOn,hown,hup⟩:=hrel
  have HO:=qh hO
  clear hO;obtain⟨Ao,co,rfl,hco,hcm,-,-⟩:=own_form hown
  by_cases hlt:k<l.length
  ·obtain⟨b,off,d,rfl,hlo,hb,hd,q0,q1,q2⟩:=(hr.up hup hhi).nm hlt
   have HD:=qh hd
   clear hd;have hub:=Up.alloc wr (.cells #[.string d.nm,.int .i64 d.fr,.int .i64 d.to_] 174)
   have hX:=Bx.new wr #[.string d.nm,.int .i64 d.fr,.int .i64 d.to_] 174
   have hownb:=own_up hown hub
   have hupb:=hup.trans hub
   rcases he:(d.nm.toList==nm.toList) with _|_
   ·have HT:=qh he
    go_wp2;go_roundw
    case rel=>exact⟨k+1,O,by omega,by go_num,by rw[mkL_no HD.out HT.out];exact HO.out,by omega,hownb,hupb⟩
    case measure=>simp[intOf];omega
   ·have HT:=qh he
    have n1:O.length+1≤maxLen:=by unfold maxLen;omega
    have n2:(O.length+1)*16≤140737488355328:=by omega
    obtain⟨r0,r1,r2⟩:=hX.c3
    have n3:w.heap.size≤((wr.alloc (.cells #[.string d.nm,.int .i64 d.fr,.int .i64 d.to_] 174)).alloc (.cells #[.int .i64 d.fr,.int .i64 d.to_] 84)).heap.size:=(hupb.allocs _).size
    have hcn:∀j u,[Value.int .i64 d.fr,.int .i64 d.to_][j]?=some u→((wr.alloc (.cells #[.string d.nm,.int .i64 d.fr,.int .i64 d.to_] 174)).alloc (.cells #[.int .i64 d.fr,.int .i64 d.to_] 84)).cell? ((⟨wr.heap.size+1,0,none⟩:Addr).add j)=some u:=by
     have:=cell_two_newP (wr.alloc (.cells #[.string d.nm,.int .i64 d.fr,.int .i64 d.to_] 174)) (.int .i64 d.fr) (.int .i64 d.to_) 84
     rw[show(wr.alloc (.cells #[.string d.nm,.int .i64 d.fr,.int .i64 d.to_] 174)).heap.size=wr.heap.size+1 by simp]at this
     exact this
    have HCN:=qh hcn
    have HOW:=qh (hownb.alloc (.cells #[.int .i64 d.fr,.int .i64 d.to_] 84))
    clear hown hcn;go_wp2_with ((at_builtin;refine wpList_append_own _ rfl _ _ 76 rfl w.heap.size 84 i0 _ 2 16 Tryz.underlying76 hi0 hz0 hz1 hz2 rfl (by decide) _ _ _ rfl HOW.out ⟨wr.heap.size+1,0,none⟩ 1 1 [.int .i64 d.fr,.int .i64 d.to_] rfl rfl HCN.out (by simp[Value.oneCell']) n1 n2 n3 ?_))
    intro v' w4 hown' hgrow _
    have hu4:=(hupb.allocs (.cells #[.int .i64 d.fr,.int .i64 d.to_] 84)).grown hgrow (fun k hk=>(hownb.lt k hk).1)
    clear hgrow hownb r0 r1 r2 HCN HOW;go_wp2;go_roundw
    case rel=>exact⟨k+1,O++[(d.fr,d.to_)],by omega,by go_num,by rw[mkL_yes HD.out HT.out,HO.out],by simp;omega,by simpa[spC] using hown',hu4⟩
    case measure=>simp[intOf];omega
  ·obtain rfl:k=l.length:=by omega
   have hfin:O=mkL l nm:=by rw[HO.out,List.take_of_length_le (Nat.le_refl _)]
   have hbd:∀s∈O,(0≤s.1∧s.1≤730499)∧(0≤s.2∧s.2≤730499)∧s.1≤s.2:=fun s hs=>by
    rw[hfin]at hs;unfold mkL at hs
    obtain⟨x,hx,rfl⟩:=List.mem_map.1 hs
    have:=HDY.out x (List.mem_filter.1 hx).1
    simp only[spanB,dayB,Bool.and_eq_true,inB_iff,decide_eq_true_eq]at this
    simp only[]
    omega
   have hb1:BdS O:=fun s hs=>by have:=hbd s hs;omega
   have hb2:OkS O:=fun s hs=>by have:=hbd s hs;omega
   have HM:=qh (unitedA_any Ao O co w.heap.size wr.heap.size wr (Rd.own spC_len hown) (Nat.le_refl _) (by omega) hb1 hb2)
   have HE:=qh hfin
   clear hfin hbd hb1 hb2;go_wp2_with fail
   refine HM.out.mono ?_
   rintro e w3 ⟨v,rfl,ho,hu3⟩
   have HO3:=qh (own_base ho hup.size)
   clear ho;go_wp2;go_ret;exact⟨v,rfl,by rw[← HE.out];exact HO3.out,hup.trans hu3⟩
theorem markDaysN(s:Sl Nm)(nm:ByteArray)(lo hi:Nat)(w:World)(h:SrNm w lo hi s)(ha:amB s.l=true) :
 Calls Tryz.prog 120 #[.slice s.A s.l.length s.c,.string nm] w fun e w'=>∃A c m,e=.returned (.slice A m c)∧decide (0<m)=nmIn s.l nm∧Up w w':=by
 simp only[amB,Bool.and_eq_true,decide_eq_true_eq]at ha
 refine(markDays_any s nm lo hi w h (by omega) (fun d hd=>?_)).mono fun e w' ⟨v,he,ho,hu⟩=>?_
 ·obtain⟨j,hj,e⟩:=List.getElem_of_mem hd
  have:=allK_yes ha.1 (k:=j) (d:=d) (by rw[List.getElem?_eq_getElem hj,e])
  simp only[amQ,rgB,Bool.and_eq_true]at this
  exact this.1.2
 ·obtain⟨A,c,rfl,-,-,-,-⟩:=own_form ho
  exact⟨A,c,_,he,mkL_nil _ _,hu⟩
theorem tmod_zero{y n:Int}:decide (Int.tmod y n=0)=decide (y % n=0):=by
 rw[decide_eq_decide,← Int.dvd_iff_tmod_eq_zero,← Int.dvd_iff_emod_eq_zero]
def oldB(y m d:Int):Bool:=inB y 1 2000 && (inB m 1 12 && inB d 1 (ml y m))
theorem oldB_4(m d:Int):oldB 4 m d=mdB m d:=by
 unfold oldB mdB ml
 have:inB 4 1 2000=true:=rfl
 rw[this];simp
theorem l01Leap_any(y:Int)(w:World):Calls Tryz.prog 268 #[.int .i64 y,.bool false] w fun e w'=>e=.returned (.bool (decide (y % 4=0)))∧w=w':=by
 go_enter Tryz.func268,Tryz.ntmps268
 go_wp2
 all_goals (go_ret;exact⟨ret_bool (by first|(rw[← tmod_zero];rfl)|(rw[← tmod_zero];simp)),rfl⟩)
theorem l01Length_any(y m:Int)(w:World):Calls Tryz.prog 269 #[.int .i64 y,.int .i64 m,.bool false] w fun e w'=>e=.returned (.int .i64 (ml y m))∧w=w':=by
 obtain⟨b,hb⟩:∃b,b=decide (y % 4=0):=⟨_,rfl⟩
 have c:=fun wx=>l01Leap_any y wx
 simp only[← hb]at c
 have HB:=qh hb
 clear hb;cases b<;>go_enter Tryz.func269,Tryz.ntmps269
 all_goals (go_wp2_with (go_at_call 268;refine(c _).mono ?_;rintro e w' ⟨rfl,rfl⟩))
 all_goals go_ret
 all_goals (refine⟨ret_int ?_,rfl⟩;have hh:=HB.out;simp at hh;unfold ml;simp_all)
theorem l01Valid_any(y m d:Int)(w:World):Calls Tryz.prog 305 #[.agg #[.int .i64 y,.int .i64 m,.int .i64 d],.bool false] w fun e w'=>e=.returned (.bool (oldB y m d))∧Up w w':=by
 have u:=Up.alloc w (.cells #[.int .i64 y,.int .i64 m,.int .i64 d] 265)
 have hB:=Bx.new w #[.int .i64 y,.int .i64 m,.int .i64 d] 265
 obtain⟨b1,hb1⟩:∃x,x=inB y 1 2000:=⟨_,rfl⟩
 obtain⟨b2,hb2⟩:∃x,x=inB m 1 12:=⟨_,rfl⟩
 obtain⟨b3,hb3⟩:∃x,x=inB d 1 (ml y m):=⟨_,rfl⟩
 obtain⟨z,hz⟩:∃z,z=ml y m:=⟨_,rfl⟩
 have HE:=qh (show oldB y m d=(b1 && (b2 && b3)) by unfold oldB;rw[hb1,hb2,hb3])
 go_enter Tryz.func305,Tryz.ntmps305
 go_wp2_with fail
 generalize w.alloc (.cells #[.int .i64 y,.int .i64 m,.int .i64 d] 265)=W1 at *
 obtain⟨y0,y1,y2⟩:=hB.c3
 have Y0:=cell_regrown y0
 have Y1:=cell_regrown y1
 have Y2:=cell_regrown y2
 have cA:∀dd os,Calls Tryz.prog 49 #[.int .i64 y,.int .i64 1,.int .i64 2000] (grow (redrawn W1 dd) os) fun e w''=>e=.returned (.bool b1)∧∃p:Regrown,w''=grow (redrawn W1 p.d) p.os:=fun dd os=>by rw[hb1];exact Calls.regrown_of (l01InU _ _ _ _)
 have cB:∀dd os,Calls Tryz.prog 49 #[.int .i64 m,.int .i64 1,.int .i64 12] (grow (redrawn W1 dd) os) fun e w''=>e=.returned (.bool b2)∧∃p:Regrown,w''=grow (redrawn W1 p.d) p.os:=fun dd os=>by rw[hb2];exact Calls.regrown_of (l01InU _ _ _ _)
 have cC:∀dd os,Calls Tryz.prog 49 #[.int .i64 d,.int .i64 1,.int .i64 z] (grow (redrawn W1 dd) os) fun e w''=>e=.returned (.bool b3)∧∃p:Regrown,w''=grow (redrawn W1 p.d) p.os:=fun dd os=>by rw[hb3,hz];exact Calls.regrown_of (l01InU _ _ _ _)
 have cL:∀dd os,Calls Tryz.prog 269 #[.int .i64 y,.int .i64 m,.bool false] (grow (redrawn W1 dd) os) fun e w''=>e=.returned (.int .i64 z)∧∃p:Regrown,w''=grow (redrawn W1 p.d) p.os:=fun dd os=>by
  rw[hz];exact Calls.regrown_of ((l01Length_any y m _).mono fun e w' ⟨h,h2⟩=>⟨h,by rw[← h2];exact Up.refl _⟩)
 clear hb1 hb2 hb3 hz y0 y1 y2;rcases b1 with _|_<;>rcases b2 with _|_<;>rcases b3 with _|_
 all_goals
  refine wp_region_quiet_below (by kernel_rfl) (by kernel_rfl) ?_
  repeat (first|go_big_quiet_step ((first|(go_at_call 269;exact cL _ _)|(go_at_call 49;first|with_reducible exact cA _ _|with_reducible exact cB _ _|with_reducible exact cC _ _)))|quiet_step ((first|(go_at_call 269;exact cL _ _)|(go_at_call 49;first|with_reducible exact cA _ _|with_reducible exact cB _ _|with_reducible exact cC _ _))))
  refine wpQuiet_nil ?_
  intro w2 hw2
  obtain⟨⟨dq,osq⟩,hw2⟩:=hw2
  have hup2:Up W1 w2:=by rw[hw2];exact below_regrown _ _ _
  clear hw2 Y0 Y1 Y2 cA cB cC cL;go_wp2;go_ret;exact⟨ret_bool (by rw[HE.out];rfl),u.trans hup2⟩
theorem specIsOldDate_any(y m d:Int)(w:World):Calls Tryz.prog 262 #[.agg #[.int .i64 y,.int .i64 m,.int .i64 d]] w fun e w'=>e=.returned (.bool (oldB y m d))∧Up w w':=by
 have u:=Up.alloc w (.cells #[.int .i64 y,.int .i64 m,.int .i64 d] 265)
 go_enter Tryz.func262,Tryz.ntmps262
 go_wp2_with (go_at_call 305;refine(l01Valid_any _ _ _ _).mono ?_;rintro e w' ⟨rfl,hup⟩)
 go_ret;exact⟨rfl,u.trans hup⟩
theorem l05Feast_any(f:Int)(w:World):Calls Tryz.prog 263 #[.int .i64 f] w fun e w'=>e=.returned (.bool (inB f 0 19))∧w=w':=by
 go_enter Tryz.func263,Tryz.ntmps263
 go_wp2_with (go_at_call 49;refine(l01In_any _ _ _ _).mono ?_;rintro e w' ⟨rfl,rfl⟩)
 go_ret;exact⟨rfl,rfl⟩
theorem l06Year_any(f:Int)(w:World):Calls Tryz.prog 232 #[.int .i64 f] w fun e w'=>e=.returned (.bool (inB f 2 1999))∧w=w':=by
 go_enter Tryz.func232,Tryz.ntmps232
 go_wp2_with (go_at_call 49;refine(l01In_any _ _ _ _).mono ?_;rintro e w' ⟨rfl,rfl⟩)
 go_ret;exact⟨rfl,rfl⟩
theorem l06Style_any(f:Int)(w:World):Calls Tryz.prog 265 #[.int .i64 f] w fun e w'=>e=.returned (.bool (inB f 0 6))∧w=w':=by
 go_enter Tryz.func265,Tryz.ntmps265
 go_wp2_with (go_at_call 49;refine(l01In_any _ _ _ _).mono ?_;rintro e w' ⟨rfl,rfl⟩)
 go_ret;exact⟨rfl,rfl⟩
theorem l08Kind_any(f:Int)(w:World):Calls Tryz.prog 266 #[.int .i64 f] w fun e w'=>e=.returned (.bool (inB f 0 2))∧w=w':=by
 go_enter Tryz.func266,Tryz.ntmps266
 go_wp2_with (go_at_call 49;refine(l01In_any _ _ _ _).mono ?_;rintro e w' ⟨rfl,rfl⟩)
 go_ret;exact⟨rfl,rfl⟩
def r2B(r w:Int):Bool:=inB r 0 4 && (inB w 0 6 && (decide (3≤r) || decide (w=0)))
theorem l05Relation_any(r k:Int)(w:World):Calls Tryz.prog 264 #[.int .i64 r,.int .i64 k] w fun e w'=>e=.returned (.bool (r2B r k))∧w=w':=by
 obtain⟨b1,hb1⟩:∃x,x=inB r 0 4:=⟨_,rfl⟩
 obtain⟨b2,hb2⟩:∃x,x=inB k 0 6:=⟨_,rfl⟩
 have c1:=fun wx=>l01In_any r 0 4 wx
 have c2:=fun wx=>l01In_any k 0 6 wx
 simp only[← hb1]at c1
 simp only[← hb2]at c2
 have HE:=qh (show r2B r k=(b1 && (b2 && (decide (3≤r) || decide (k=0)))) by unfold r2B;rw[hb1,hb2])
 clear hb1 hb2;cases b1<;>cases b2<;>go_enter Tryz.func264,Tryz.ntmps264
 all_goals (go_wp2_with (go_at_call 49;first|((with_reducible refine(c1 _).mono ?_);rintro e w' ⟨rfl,rfl⟩)|((with_reducible refine(c2 _).mono ?_);rintro e w' ⟨rfl,rfl⟩)))
 all_goals go_ret
 all_goals exact⟨ret_bool (by rw[HE.out];first|rfl|(simp;done)|(simp_all;done)|(simp;omega)),rfl⟩
theorem specIsClause_any(c:Cl)(w:World)(hc:c.ok) :
 Calls Tryz.prog 227 #[c.val] w fun e w'=>e=.returned (.bool (clB c))∧Up w w':=by
 obtain⟨ki,nu,mo,fe,re_,wk,sy,kg⟩:=c
 have hkg:kg.size≤maxLen:=hc
 have cO:=fun wx=>specIsOldDate_any 4 mo nu wx
 simp only[oldB_4]at cO
 go_enter Tryz.func227,Tryz.ntmps227
 go_wp2_with first
  |(go_at_call 49;refine(l01In_any _ _ _ _).mono ?_;rintro e w' ⟨rfl,rfl⟩)
  |(go_at_call 262;refine(cO _).mono ?_;rintro e w' ⟨rfl,hup⟩)
  |(go_at_call 263;refine(l05Feast_any _ _).mono ?_;rintro e w' ⟨rfl,rfl⟩)
  |(go_at_call 264;refine(l05Relation_any _ _ _).mono ?_;rintro e w' ⟨rfl,rfl⟩)
  |(go_at_call 182;refine(l01Name_any _ _ _ hkg).mono ?_;rintro e w' ⟨rfl,rfl⟩)
  |(go_at_call 232;refine(l06Year_any _ _).mono ?_;rintro e w' ⟨rfl,rfl⟩)
  |(go_at_call 265;refine(l06Style_any _ _).mono ?_;rintro e w' ⟨rfl,rfl⟩)
  |(go_at_call 266;refine(l08Kind_any _ _).mono ?_;rintro e w' ⟨rfl,rfl⟩)
 all_goals go_ret
 all_goals refine⟨ret_bool ?_,?_⟩
 all_goals first
  | exact(Up.alloc _ _).allocs _
  | exact((Up.alloc _ _).allocs _).trans (by assumption)
  |(simp_all [clB,z0,zs,rlB,r2B];done)
def dIx(l:List Dd)(s:ByteArray):Int:=ixB l fun x=>x.nm.toList==s.toList
theorem dIx_in(l:List Dd)(s:ByteArray):decide (0≤dIx l s)=ddIn (l.map Dd.p) s:=by
 unfold dIx ddIn;rw[ixB_any,List.any_map];rfl
theorem tx_in(l:List ByteArray)(s:ByteArray):decide (0≤txIx l s)=l.any fun x=>x.toList==s.toList:=by unfold txIx;rw[ixB_any]
theorem px_in(l:List Nm)(s:ByteArray):decide (0≤pix l s)=nmIn l s:=by unfold pix nmIn;rw[ixB_any]
theorem l17Find_any(A:Option Addr)(l:List Dd)(c lo hi:Nat)(nm:ByteArray)(w:World)(hr:Rd w lo hi 7 Dd.cells A l)(hn:l.length≤2000000) :
 Calls Tryz.prog 143 #[.slice A l.length c,.string nm] w fun e w'=>e=.returned (.int .i64 (dIx l nm))∧Up w w':=by
 go_enter Tryz.func143,Tryz.ntmps143
 go_wp2;go_loop [5] (fun i=>∃k:Nat,k≤l.length∧i=.int .i64 k∧(∀j d,j<k→l[j]?=some d→(d.nm.toList==nm.toList)=false)) (fun i=>l.length-(intOf i).toNat)
 case atStart=>exact⟨0,Nat.zero_le _,rfl,fun j d h=>absurd h (by omega)⟩
 case round =>
  obtain⟨k,hk,rfl,ha⟩:=hrel
  have HA:=qh ha
  clear ha;by_cases hlt:k<l.length
  ·obtain⟨b,off,d,rfl,-,-,hd,q0,q1,q2,q3,q4,q5,q6⟩:=hr.dd hlt
   have HD:=qh hd
   clear hd q1 q2 q3 q4 q5 q6;rcases he:(d.nm.toList==nm.toList) with _|_
   ·have HT:=qh he
    go_wp2;go_round
    case rel=>exact⟨k+1,by omega,by go_num,fun j x hj hx=>by
     rcases Nat.lt_or_ge j k with h|h
     ·exact HA.out j x h hx
     ·obtain rfl:j=k:=by omega
      rw[HD.out]at hx;cases hx;exact HT.out⟩
    case measure=>simp[intOf];omega
   ·have HT:=qh he
    go_wp2;go_ret;exact⟨ret_int (ixB_yes HD.out HT.out HA.out).symm,Up.refl _⟩
  ·go_wp2
   go_ret;exact⟨ret_int (ixB_no (fun j d hj hd=>HA.out j d (by omega) hd)).symm,Up.refl _⟩
theorem dtB_no{l:List Cl}{k:Nat}{d:Cl}(hd:l[k]?=some d)(h:clB d=false):dtB l=false:=by
 have:l.all clB=false:=by rw[List.all_eq_false];exact⟨d,List.mem_of_getElem? hd,by simp[h]⟩
 simp[dtB,this]
theorem dtB_end{l:List Cl}(h:∀k d,k<l.length→l[k]?=some d→clB d=true):dtB l=decide (l.length≤8):=by
 have:l.all clB=true:=by
  rw[List.all_eq_true];intro x hx
  obtain⟨j,hj,e⟩:=List.getElem_of_mem hx
  exact h j x hj (by rw[List.getElem?_eq_getElem hj,e])
 simp[dtB,this]
theorem specIsDating_any(s:Sl Cl)(lo hi:Nat)(w:World)(h:SrCl w lo hi s) :
 Calls Tryz.prog 183 #[.slice s.A s.l.length s.c] w fun e w'=>e=.returned (.bool (dtB s.l))∧Up w w':=by
 obtain⟨A,c,l⟩:=s
 have hr:=h.rd
 have hhi:=h.hhi
 have hn:l.length≤2000000:=h.len
 have hok:=qh h.ok
 clear h;show Calls _ _ #[.slice A l.length c] _ fun e w'=>e=.returned (.bool (dtB l))∧_
 go_enter Tryz.func183,Tryz.ntmps183
 go_wp2;go_loopw [3] (fun i wr=>∃k:Nat,k≤l.length∧i=.int .i64 k∧(∀j d,j<k→l[j]?=some d→clB d=true)∧Up w wr) (fun i _=>l.length-(intOf i).toNat)
 case atStart=>exact⟨0,Nat.zero_le _,rfl,fun j d h=>absurd h (by omega),Up.refl _⟩
 case round =>
  obtain⟨k,hk,rfl,ha,hup⟩:=hrel
  have HA:=qh ha
  clear ha;by_cases hlt:k<l.length
  ·obtain⟨b,off,d,rfl,-,-,hd,q0,q1,q2,q3,q4,q5,q6,q7⟩:=(hr.up hup hhi).cl hlt
   have HD:=qh hd
   clear hd;obtain⟨bb,hbb⟩:∃x,x=clB d:=⟨_,rfl⟩
   have hC:=specIsClause_any d wr (hok.out d (List.mem_of_getElem? HD.out))
   rw[← hbb]at hC;have HC:=qh hC
   have HB:=qh hbb
   clear hC hbb;rcases bb with _|_
   ·go_wp2_with (go_at_call 227;refine HC.out.mono ?_;rintro e w' ⟨rfl,hup'⟩)
    go_ret;exact⟨ret_bool (dtB_no HD.out HB.out.symm).symm,hup.trans hup'⟩
   ·go_wp2_with (go_at_call 227;refine HC.out.mono ?_;rintro e w' ⟨rfl,hup'⟩)
    go_roundw
    case rel=>exact⟨k+1,by omega,by go_num,allK_step (q:=fun _=>clB) HA.out HD.out HB.out.symm,hup.trans hup'⟩
    case measure=>simp[intOf];omega
  ·have HE:=qh (dtB_end (l:=l) (fun j d hj hd=>HA.out j d (by omega) hd))
   go_wp2;go_ret;exact⟨ret_bool (by rw[HE.out];exact decide_eq_decide.2 (by omega)),hup⟩
def wiB(l:List Nm)(ws:List Wi):Bool:=decide (ws.length≤12) && ws.all fun x=>nmIn l x.pe
theorem wiB_no{l:List Nm}{ws:List Wi}{k:Nat}{d:Wi}(hd:ws[k]?=some d)(h:nmIn l d.pe=false):wiB l ws=false:=by
 have:(ws.all fun x=>nmIn l x.pe)=false:=by rw[List.all_eq_false];exact⟨d,List.mem_of_getElem? hd,by simp[h]⟩
 simp[wiB,this]
theorem wiB_end{l:List Nm}{ws:List Wi}(h0:ws.length≤12)(h:∀k d,k<ws.length→ws[k]?=some d→nmIn l d.pe=true):wiB l ws=true:=by
 have:(ws.all fun x=>nmIn l x.pe)=true:=by
  rw[List.all_eq_true];intro x hx
  obtain⟨j,hj,e⟩:=List.getElem_of_mem hx
  exact h j x hj (by rw[List.getElem?_eq_getElem hj,e])
 simp[wiB,this,h0]
theorem l13Code_any(s:Sl Nm)(t:Sl Tm)(v:Sl Wi)(lo hi:Nat)(w:World)(h:SrNm w lo hi s)(h2:SrTm w lo hi t)(h3:SrWi w lo hi v)(hp:ppB s.l t.l=true) :
 Calls Tryz.prog 184 #[.agg #[.slice s.A s.l.length s.c,.slice t.A t.l.length t.c],.slice v.A v.l.length v.c,.bool true] w fun e w'=>∃z:Int,e=.returned (.int .i64 z)∧(z≠0 ↔ wiB s.l v.l=false)∧Up w w':=by
 obtain⟨V,cv,ws⟩:=v
 have hr:=h3.rd
 have hhi:=h3.hhi
 have hn:ws.length≤2000000:=h3.len
 have H:=qh h
 have u0:=Up.alloc w (.cells #[.slice s.A s.l.length s.c,.slice t.A t.l.length t.c] 52)
 have hB:=Bx.new w #[.slice s.A s.l.length s.c,.slice t.A t.l.length t.c] 52
 have hP:=specIsPeople_any s t lo hi _ (h.up u0) (h2.up u0)
 rw[hp]at hP;have HP:=qh hP
 clear h h2 h3 hP hp;show Calls _ _ #[_,.slice V ws.length cv,_] _ fun e w'=>∃z:Int,e=.returned (.int .i64 z)∧(z≠0 ↔ wiB s.l ws=false)∧_
 by_cases h12:ws.length≤12
 ·go_enter Tryz.func184,Tryz.ntmps184
  go_wp2_with (go_at_call 179;refine HP.out.mono ?_;rintro e w1 ⟨rfl,hup⟩)
  have hB1:=hB.up hup
  have u1:=u0.trans hup
  clear hB hup u0 HP;go_loopw [7] (fun i wr=>∃k:Nat,k≤ws.length∧i=.int .i64 k∧(∀j d,j<k→ws[j]?=some d→nmIn s.l d.pe=true)∧Up w1 wr) (fun i _=>ws.length-(intOf i).toNat)
  case atStart=>exact⟨0,Nat.zero_le _,rfl,fun j d h=>absurd h (by omega),Up.refl _⟩
  case round =>
   obtain⟨k,hk,rfl,ha,hup⟩:=hrel
   have HA:=qh ha
   clear ha;by_cases hlt:k<ws.length
   ·obtain⟨b,off,d,rfl,-,-,hd,q0,q1⟩:=((hr.up u1 hhi).up hup (Nat.le_trans hhi u1.size)).wi hlt
    have HD:=qh hd
    clear hd;obtain⟨x0,x1⟩:=(hB1.up hup).c2
    have X0:=cell_regrown x0
    have X1:=cell_regrown x1
    have Q0:=cell_regrown q0
    obtain⟨pz,hpz⟩:∃z,z=pix s.l d.pe:=⟨_,rfl⟩
    have cP:∀dd os,Calls Tryz.prog 148 #[.agg #[.slice s.A s.l.length s.c,.slice t.A t.l.length t.c],.string d.pe] (grow (redrawn wr dd) os) fun e w''=>e=.returned (.int .i64 pz)∧∃p:Regrown,w''=grow (redrawn wr p.d) p.os :=
     fun dd os=>by rw[hpz];exact Calls.regrown_of (l13Person_any s t d.pe lo hi _ ((H.out.up (u1.trans hup)).up (below_regrown wr dd os)))
    have HZ:=qh (show decide (0≤pz)=nmIn s.l d.pe by rw[hpz,px_in])
    clear hpz;by_cases hz:pz<0
    ·go_wp2_with fail
     refine wp_region_quiet_below (by kernel_rfl) (by kernel_rfl) ?_
     repeat (first|go_big_quiet_step ((first|(go_at_call 148;exact cP _ _)))|quiet_step ((first|(go_at_call 148;exact cP _ _))))
     refine wpQuiet_nil ?_
     intro w2 hw2
     obtain⟨⟨dq,osq⟩,hw2⟩:=hw2
     have hup2:Up wr w2:=by rw[hw2];exact below_regrown _ _ _
     clear hw2 X0 X1 Q0 cP;go_wp2;go_ret;exact⟨4,rfl,⟨fun _=>wiB_no HD.out (by rw[← HZ.out,decide_eq_false_iff_not];omega),fun _=>by decide⟩,u1.trans (hup.trans hup2)⟩
    ·go_wp2_with fail
     refine wp_region_quiet_below (by kernel_rfl) (by kernel_rfl) ?_
     repeat (first|go_big_quiet_step ((first|(go_at_call 148;exact cP _ _)))|quiet_step ((first|(go_at_call 148;exact cP _ _))))
     refine wpQuiet_nil ?_
     intro w2 hw2
     obtain⟨⟨dq,osq⟩,hw2⟩:=hw2
     have hup2:Up wr w2:=by rw[hw2];exact below_regrown _ _ _
     clear hw2 X0 X1 Q0 cP;go_wp2;go_roundw
     case rel=>exact⟨k+1,by omega,by go_num,allK_step (q:=fun _ x=>nmIn s.l x.pe) HA.out HD.out (by rw[← HZ.out,decide_eq_true_eq];omega),hup.trans hup2⟩
     case measure=>simp[intOf];omega
   ·have HE:=qh (wiB_end (l:=s.l) (ws:=ws) h12 (fun j d hj hd=>HA.out j d (by omega) hd))
    go_wp2;go_ret;exact⟨0,rfl,⟨fun h=>absurd rfl h,fun h=>by rw[HE.out]at h;cases h⟩,u1.trans hup⟩
 ·have HE:=qh (show wiB s.l ws=false by simp[wiB,h12])
  go_enter Tryz.func184,Tryz.ntmps184
  go_wp2_with (go_at_call 179;refine HP.out.mono ?_;rintro e w1 ⟨rfl,hup⟩)
  go_ret;exact⟨2,rfl,⟨fun _=>HE.out,fun _=>by decide⟩,u0.trans hup⟩
theorem specIsWorld_any(x:Wd)(lo hi:Nat)(w:World)(h:RdW w lo hi x) :
 Calls Tryz.prog 141 #[x.val] w fun e w'=>e=.returned (.bool (wdB x.p))∧Up w w':=by
 obtain⟨b1,hb1⟩:∃z,z=chB x.rs.l x.fr x.to_:=⟨_,rfl⟩
 obtain⟨b2,hb2⟩:∃z,z=ppB x.ps.l x.ts.l:=⟨_,rfl⟩
 obtain⟨b3,hb3⟩:∃z,z=itB x.pl.l x.ws.l x.st.l:=⟨_,rfl⟩
 obtain⟨b4,hb4⟩:∃z,z=amB x.se.l:=⟨_,rfl⟩
 obtain⟨b5,hb5⟩:∃z,z=amB x.ha.l:=⟨_,rfl⟩
 have HE:=qh (show wdB x.p=(b1 && (b2 && (b3 && (b4 && b5)))) by unfold wdB;rw[hb1,hb2,hb3,hb4,hb5])
 have c1:=fun wx (u:Up w wx)=>specIsChancery_any x.rs x.fr x.to_ lo hi wx (h.rs.up u)
 have c2:=fun wx (u:Up w wx)=>specIsPeople_any x.ps x.ts lo hi wx (h.ps.up u) (h.ts.up u)
 have c3:=fun wx (u:Up w wx)=>specIsItinerary_any x.pl x.ws x.st lo hi wx (h.pl.up u) (h.ws.up u) (h.st.up u)
 have c4:=fun wx (u:Up w wx)=>specAreMarks_any x.se lo hi wx (h.se.up u)
 have c5:=fun wx (u:Up w wx)=>specAreMarks_any x.ha lo hi wx (h.ha.up u)
 simp only[← hb1]at c1
 simp only[← hb2]at c2
 simp only[← hb3]at c3
 simp only[← hb4]at c4
 simp only[← hb5]at c5
 have K1:=qh c1
 have K2:=qh c2
 have K3:=qh c3
 have K4:=qh c4
 have K5:=qh c5
 clear hb1 hb2 hb3 hb4 hb5 c1 c2 c3 c4 c5 h;have u:=Up.alloc w (.cells #[.slice x.rs.A x.rs.l.length x.rs.c,.int .i64 x.fr,.int .i64 x.to_,.slice x.ps.A x.ps.l.length x.ps.c,.slice x.ts.A x.ts.l.length x.ts.c,.slice x.pl.A x.pl.l.length x.pl.c,.slice x.ws.A x.ws.l.length x.ws.c,.slice x.st.A x.st.l.length x.st.c,.slice x.se.A x.se.l.length x.se.c,.slice x.ha.A x.ha.l.length x.ha.c] 59)
 have hB:=Bx.new w #[.slice x.rs.A x.rs.l.length x.rs.c,.int .i64 x.fr,.int .i64 x.to_,.slice x.ps.A x.ps.l.length x.ps.c,.slice x.ts.A x.ts.l.length x.ts.c,.slice x.pl.A x.pl.l.length x.pl.c,.slice x.ws.A x.ws.l.length x.ws.c,.slice x.st.A x.st.l.length x.st.c,.slice x.se.A x.se.l.length x.se.c,.slice x.ha.A x.ha.l.length x.ha.c] 59
 go_enter Tryz.func141,Tryz.ntmps141
 go_wp2_with fail
 generalize w.alloc (.cells #[.slice x.rs.A x.rs.l.length x.rs.c,.int .i64 x.fr,.int .i64 x.to_,.slice x.ps.A x.ps.l.length x.ps.c,.slice x.ts.A x.ts.l.length x.ts.c,.slice x.pl.A x.pl.l.length x.pl.c,.slice x.ws.A x.ws.l.length x.ws.c,.slice x.st.A x.st.l.length x.st.c,.slice x.se.A x.se.l.length x.se.c,.slice x.ha.A x.ha.l.length x.ha.c] 59)=w0 at *
 obtain⟨x0,x1,x2,x3,x4,x5,x6,x7,x8,x9⟩:=hB.c10
 rcases b1 with _|_
 ·go_wp2_with first|(go_at_call 178;refine(K1.out _ u).mono ?_;rintro e wn ⟨rfl,v⟩;replace u:=u.trans v;replace hB:=hB.up v;clear v;obtain⟨x0,x1,x2,x3,x4,x5,x6,x7,x8,x9⟩:=hB.c10)|(go_at_call 179;refine(K2.out _ u).mono ?_;rintro e wn ⟨rfl,v⟩;replace u:=u.trans v;replace hB:=hB.up v;clear v;obtain⟨x0,x1,x2,x3,x4,x5,x6,x7,x8,x9⟩:=hB.c10)|(go_at_call 180;refine(K3.out _ u).mono ?_;rintro e wn ⟨rfl,v⟩;replace u:=u.trans v;replace hB:=hB.up v;clear v;obtain⟨x0,x1,x2,x3,x4,x5,x6,x7,x8,x9⟩:=hB.c10)|(go_at_call 181;(first|(with_reducible refine(K4.out _ u).mono ?_)|(with_reducible refine(K5.out _ u).mono ?_));rintro e wn ⟨rfl,v⟩;replace u:=u.trans v;replace hB:=hB.up v;clear v;obtain⟨x0,x1,x2,x3,x4,x5,x6,x7,x8,x9⟩:=hB.c10)
  go_ret;exact⟨ret_bool (by rw[HE.out];rfl),u⟩
 rcases b2 with _|_
 ·go_wp2_with first|(go_at_call 178;refine(K1.out _ u).mono ?_;rintro e wn ⟨rfl,v⟩;replace u:=u.trans v;replace hB:=hB.up v;clear v;obtain⟨x0,x1,x2,x3,x4,x5,x6,x7,x8,x9⟩:=hB.c10)|(go_at_call 179;refine(K2.out _ u).mono ?_;rintro e wn ⟨rfl,v⟩;replace u:=u.trans v;replace hB:=hB.up v;clear v;obtain⟨x0,x1,x2,x3,x4,x5,x6,x7,x8,x9⟩:=hB.c10)|(go_at_call 180;refine(K3.out _ u).mono ?_;rintro e wn ⟨rfl,v⟩;replace u:=u.trans v;replace hB:=hB.up v;clear v;obtain⟨x0,x1,x2,x3,x4,x5,x6,x7,x8,x9⟩:=hB.c10)|(go_at_call 181;(first|(with_reducible refine(K4.out _ u).mono ?_)|(with_reducible refine(K5.out _ u).mono ?_));rintro e wn ⟨rfl,v⟩;replace u:=u.trans v;replace hB:=hB.up v;clear v;obtain⟨x0,x1,x2,x3,x4,x5,x6,x7,x8,x9⟩:=hB.c10)
  go_ret;exact⟨ret_bool (by rw[HE.out];rfl),u⟩
 rcases b3 with _|_
 ·go_wp2_with first|(go_at_call 178;refine(K1.out _ u).mono ?_;rintro e wn ⟨rfl,v⟩;replace u:=u.trans v;replace hB:=hB.up v;clear v;obtain⟨x0,x1,x2,x3,x4,x5,x6,x7,x8,x9⟩:=hB.c10)|(go_at_call 179;refine(K2.out _ u).mono ?_;rintro e wn ⟨rfl,v⟩;replace u:=u.trans v;replace hB:=hB.up v;clear v;obtain⟨x0,x1,x2,x3,x4,x5,x6,x7,x8,x9⟩:=hB.c10)|(go_at_call 180;refine(K3.out _ u).mono ?_;rintro e wn ⟨rfl,v⟩;replace u:=u.trans v;replace hB:=hB.up v;clear v;obtain⟨x0,x1,x2,x3,x4,x5,x6,x7,x8,x9⟩:=hB.c10)|(go_at_call 181;(first|(with_reducible refine(K4.out _ u).mono ?_)|(with_reducible refine(K5.out _ u).mono ?_));rintro e wn ⟨rfl,v⟩;replace u:=u.trans v;replace hB:=hB.up v;clear v;obtain⟨x0,x1,x2,x3,x4,x5,x6,x7,x8,x9⟩:=hB.c10)
  go_ret;exact⟨ret_bool (by rw[HE.out];rfl),u⟩
 rcases b4 with _|_
 ·go_wp2_with first|(go_at_call 178;refine(K1.out _ u).mono ?_;rintro e wn ⟨rfl,v⟩;replace u:=u.trans v;replace hB:=hB.up v;clear v;obtain⟨x0,x1,x2,x3,x4,x5,x6,x7,x8,x9⟩:=hB.c10)|(go_at_call 179;refine(K2.out _ u).mono ?_;rintro e wn ⟨rfl,v⟩;replace u:=u.trans v;replace hB:=hB.up v;clear v;obtain⟨x0,x1,x2,x3,x4,x5,x6,x7,x8,x9⟩:=hB.c10)|(go_at_call 180;refine(K3.out _ u).mono ?_;rintro e wn ⟨rfl,v⟩;replace u:=u.trans v;replace hB:=hB.up v;clear v;obtain⟨x0,x1,x2,x3,x4,x5,x6,x7,x8,x9⟩:=hB.c10)|(go_at_call 181;(first|(with_reducible refine(K4.out _ u).mono ?_)|(with_reducible refine(K5.out _ u).mono ?_));rintro e wn ⟨rfl,v⟩;replace u:=u.trans v;replace hB:=hB.up v;clear v;obtain⟨x0,x1,x2,x3,x4,x5,x6,x7,x8,x9⟩:=hB.c10)
  go_ret;exact⟨ret_bool (by rw[HE.out];rfl),u⟩
 go_wp2_with first|(go_at_call 178;refine(K1.out _ u).mono ?_;rintro e wn ⟨rfl,v⟩;replace u:=u.trans v;replace hB:=hB.up v;clear v;obtain⟨x0,x1,x2,x3,x4,x5,x6,x7,x8,x9⟩:=hB.c10)|(go_at_call 179;refine(K2.out _ u).mono ?_;rintro e wn ⟨rfl,v⟩;replace u:=u.trans v;replace hB:=hB.up v;clear v;obtain⟨x0,x1,x2,x3,x4,x5,x6,x7,x8,x9⟩:=hB.c10)|(go_at_call 180;refine(K3.out _ u).mono ?_;rintro e wn ⟨rfl,v⟩;replace u:=u.trans v;replace hB:=hB.up v;clear v;obtain⟨x0,x1,x2,x3,x4,x5,x6,x7,x8,x9⟩:=hB.c10)|(go_at_call 181;(first|(with_reducible refine(K4.out _ u).mono ?_)|(with_reducible refine(K5.out _ u).mono ?_));rintro e wn ⟨rfl,v⟩;replace u:=u.trans v;replace hB:=hB.up v;clear v;obtain⟨x0,x1,x2,x3,x4,x5,x6,x7,x8,x9⟩:=hB.c10)
 go_ret;exact⟨ret_bool (by rw[HE.out];cases b5<;>rfl),u⟩
theorem isLeap_any(y:Int)(w:World):Calls Tryz.prog 288 #[.int .i64 y,.bool false] w fun e w'=>e=.returned (.bool (decide (y % 4=0)))∧w=w':=by
 go_enter Tryz.func288,Tryz.ntmps288
 go_wp2
 all_goals (go_ret;exact⟨ret_bool (by first|(rw[← tmod_zero];rfl)|(rw[← tmod_zero];simp;done)|(rw[← tmod_zero];simp;assumption)),rfl⟩)
theorem lengthOfMonth_any(y m:Int)(w:World):Calls Tryz.prog 250 #[.int .i64 y,.int .i64 m,.bool false] w fun e w'=>e=.returned (.int .i64 (ml y m))∧w=w':=by
 obtain⟨b,hb⟩:∃b,b=decide (y % 4=0):=⟨_,rfl⟩
 have c:=fun wx=>isLeap_any y wx
 simp only[← hb]at c
 have HB:=qh hb
 clear hb;cases b<;>go_enter Tryz.func250,Tryz.ntmps250
 all_goals (go_wp2_with (go_at_call 288;refine(c _).mono ?_;rintro e w' ⟨rfl,rfl⟩))
 all_goals go_ret
 all_goals (refine⟨ret_int ?_,rfl⟩;have hh:=HB.out;simp at hh;unfold ml;simp_all)
theorem isDate_any(y m d:Int)(w:World):Calls Tryz.prog 314 #[.agg #[.int .i64 y,.int .i64 m,.int .i64 d],.bool false] w fun e w'=>e=.returned (.bool (oldB y m d))∧Up w w':=by
 have u:=Up.alloc w (.cells #[.int .i64 y,.int .i64 m,.int .i64 d] 265)
 have hB:=Bx.new w #[.int .i64 y,.int .i64 m,.int .i64 d] 265
 obtain⟨b1,hb1⟩:∃x,x=inB y 1 2000:=⟨_,rfl⟩
 obtain⟨b2,hb2⟩:∃x,x=inB m 1 12:=⟨_,rfl⟩
 obtain⟨b3,hb3⟩:∃x,x=inB d 1 (ml y m):=⟨_,rfl⟩
 obtain⟨z,hz⟩:∃z,z=ml y m:=⟨_,rfl⟩
 have HE:=qh (show oldB y m d=(b1 && (b2 && b3)) by unfold oldB;rw[hb1,hb2,hb3])
 go_enter Tryz.func314,Tryz.ntmps314
 go_wp2_with fail
 generalize w.alloc (.cells #[.int .i64 y,.int .i64 m,.int .i64 d] 265)=W1 at *
 obtain⟨y0,y1,y2⟩:=hB.c3
 have Y0:=cell_regrown y0
 have Y1:=cell_regrown y1
 have Y2:=cell_regrown y2
 have cA:∀dd os,Calls Tryz.prog 64 #[.int .i64 y,.int .i64 1,.int .i64 2000] (grow (redrawn W1 dd) os) fun e w''=>e=.returned (.bool b1)∧∃p:Regrown,w''=grow (redrawn W1 p.d) p.os:=fun dd os=>by
  rw[hb1];exact Calls.regrown_of ((within_any y 1 2000 _).mono fun e w' ⟨h,h2⟩=>⟨h,by rw[← h2];exact Up.refl _⟩)
 have cB:∀dd os,Calls Tryz.prog 64 #[.int .i64 m,.int .i64 1,.int .i64 12] (grow (redrawn W1 dd) os) fun e w''=>e=.returned (.bool b2)∧∃p:Regrown,w''=grow (redrawn W1 p.d) p.os:=fun dd os=>by
  rw[hb2];exact Calls.regrown_of ((within_any m 1 12 _).mono fun e w' ⟨h,h2⟩=>⟨h,by rw[← h2];exact Up.refl _⟩)
 have cC:∀dd os,Calls Tryz.prog 64 #[.int .i64 d,.int .i64 1,.int .i64 z] (grow (redrawn W1 dd) os) fun e w''=>e=.returned (.bool b3)∧∃p:Regrown,w''=grow (redrawn W1 p.d) p.os:=fun dd os=>by
  rw[hb3,hz];exact Calls.regrown_of ((within_any d 1 _ _).mono fun e w' ⟨h,h2⟩=>⟨h,by rw[← h2];exact Up.refl _⟩)
 have cL:∀dd os,Calls Tryz.prog 250 #[.int .i64 y,.int .i64 m,.bool false] (grow (redrawn W1 dd) os) fun e w''=>e=.returned (.int .i64 z)∧∃p:Regrown,w''=grow (redrawn W1 p.d) p.os:=fun dd os=>by
  rw[hz];exact Calls.regrown_of ((lengthOfMonth_any y m _).mono fun e w' ⟨h,h2⟩=>⟨h,by rw[← h2];exact Up.refl _⟩)
 clear hb1 hb2 hb3 hz y0 y1 y2;rcases b1 with _|_<;>rcases b2 with _|_<;>rcases b3 with _|_
 all_goals
  refine wp_region_quiet_below (by kernel_rfl) (by kernel_rfl) ?_
  repeat (first|go_big_quiet_step ((first|(go_at_call 250;exact cL _ _)|(go_at_call 64;first|with_reducible exact cA _ _|with_reducible exact cB _ _|with_reducible exact cC _ _)))|quiet_step ((first|(go_at_call 250;exact cL _ _)|(go_at_call 64;first|with_reducible exact cA _ _|with_reducible exact cB _ _|with_reducible exact cC _ _))))
  refine wpQuiet_nil ?_
  intro w2 hw2
  obtain⟨⟨dq,osq⟩,hw2⟩:=hw2
  have hup2:Up W1 w2:=by rw[hw2];exact below_regrown _ _ _
  clear hw2 Y0 Y1 Y2 cA cB cC cL;go_wp2;go_ret;exact⟨ret_bool (by rw[HE.out];rfl),u.trans hup2⟩
theorem implIsOldDate_any(y m d:Int)(w:World):Calls Tryz.prog 293 #[.agg #[.int .i64 y,.int .i64 m,.int .i64 d]] w fun e w'=>e=.returned (.bool (oldB y m d))∧Up w w':=by
 have u:=Up.alloc w (.cells #[.int .i64 y,.int .i64 m,.int .i64 d] 265)
 go_enter Tryz.func293,Tryz.ntmps293
 go_wp2_with (go_at_call 314;refine(isDate_any _ _ _ _).mono ?_;rintro e w' ⟨rfl,hup⟩)
 go_ret;exact⟨rfl,u.trans hup⟩
theorem isMonthDay_any(m d:Int)(w:World):Calls Tryz.prog 284 #[.int .i64 m,.int .i64 d] w fun e w'=>e=.returned (.bool (mdB m d))∧Up w w':=by
 go_enter Tryz.func284,Tryz.ntmps284
 go_wp2_with (go_at_call 293;refine(implIsOldDate_any _ _ _ _).mono ?_;rintro e w' ⟨rfl,hup⟩)
 go_ret;exact⟨ret_bool (oldB_4 _ _),hup⟩
theorem isFeast_any(f:Int)(w:World):Calls Tryz.prog 312 #[.int .i64 f] w fun e w'=>e=.returned (.bool (inB f 0 19))∧w=w':=by
 go_enter Tryz.func312,Tryz.ntmps312
 go_wp2_with (go_at_call 64;refine(within_any _ _ _ _).mono ?_;rintro e w' ⟨rfl,rfl⟩)
 go_ret;exact⟨rfl,rfl⟩
theorem isStyleYear_any(f:Int)(w:World):Calls Tryz.prog 254 #[.int .i64 f] w fun e w'=>e=.returned (.bool (inB f 2 1999))∧w=w':=by
 go_enter Tryz.func254,Tryz.ntmps254
 go_wp2_with (go_at_call 64;refine(within_any _ _ _ _).mono ?_;rintro e w' ⟨rfl,rfl⟩)
 go_ret;exact⟨rfl,rfl⟩
theorem isStyle_any(f:Int)(w:World):Calls Tryz.prog 286 #[.int .i64 f] w fun e w'=>e=.returned (.bool (inB f 0 6))∧w=w':=by
 go_enter Tryz.func286,Tryz.ntmps286
 go_wp2_with (go_at_call 64;refine(within_any _ _ _ _).mono ?_;rintro e w' ⟨rfl,rfl⟩)
 go_ret;exact⟨rfl,rfl⟩
theorem isKind_any(f:Int)(w:World):Calls Tryz.prog 287 #[.int .i64 f] w fun e w'=>e=.returned (.bool (inB f 0 2))∧w=w':=by
 go_enter Tryz.func287,Tryz.ntmps287
 go_wp2_with (go_at_call 64;refine(within_any _ _ _ _).mono ?_;rintro e w' ⟨rfl,rfl⟩)
 go_ret;exact⟨rfl,rfl⟩
theorem isRelation_any(f r k:Int)(w:World):Calls Tryz.prog 285 #[.int .i64 f,.int .i64 r,.int .i64 k] w fun e w'=>e=.returned (.bool (rlB f r k))∧w=w':=by
 obtain⟨b0,hb0⟩:∃x,x=inB f 0 19:=⟨_,rfl⟩
 obtain⟨b1,hb1⟩:∃x,x=inB r 0 4:=⟨_,rfl⟩
 obtain⟨b2,hb2⟩:∃x,x=inB k 0 6:=⟨_,rfl⟩
 have c0:=fun wx=>isFeast_any f wx
 have c1:=fun wx=>within_any r 0 4 wx
 have c2:=fun wx=>within_any k 0 6 wx
 simp only[← hb0]at c0
 simp only[← hb1]at c1
 simp only[← hb2]at c2
 have HE:=qh (show rlB f r k=(b0 && (b1 && (b2 && (decide (3≤r) || decide (k=0))))) by unfold rlB;rw[hb0,hb1,hb2])
 clear hb0 hb1 hb2;cases b0<;>cases b1<;>cases b2<;>go_enter Tryz.func285,Tryz.ntmps285
 all_goals (go_wp2_with first|(go_at_call 312;refine(c0 _).mono ?_;rintro e w' ⟨rfl,rfl⟩)|(go_at_call 64;first|((with_reducible refine(c1 _).mono ?_);rintro e w' ⟨rfl,rfl⟩)|((with_reducible refine(c2 _).mono ?_);rintro e w' ⟨rfl,rfl⟩)))
 all_goals go_ret
 all_goals exact⟨ret_bool (by rw[HE.out];first|rfl|(simp;done)|(simp_all;done)|(simp;omega)),rfl⟩
theorem implIsClause_any(c:Cl)(w:World)(hc:c.ok) :
 Calls Tryz.prog 244 #[c.val] w fun e w'=>e=.returned (.bool (clB c))∧Up w w':=by
 obtain⟨ki,nu,mo,fe,re_,wk,sy,kg⟩:=c
 have hkg:kg.size≤maxLen:=hc
 have hX0:=Bx.new w #[.int .i64 ki,.int .i64 nu,.int .i64 mo,.int .i64 fe,.int .i64 re_,.int .i64 wk,.int .i64 sy,.string kg] 209
 have hY:=Bx.new (w.alloc (.cells #[.int .i64 ki,.int .i64 nu,.int .i64 mo,.int .i64 fe,.int .i64 re_,.int .i64 wk,.int .i64 sy,.string kg] 209)) #[.int .i64 ki,.int .i64 0,.int .i64 0,.int .i64 0,.int .i64 0,.int .i64 0,.int .i64 0,.string ByteArray.empty] 209
 go_enter Tryz.func244,Tryz.ntmps244
 go_wp2
 ·clear hX0 hY
  go_region
  have uA:Up w (((w.alloc (.cells #[.int .i64 ki,.int .i64 nu,.int .i64 mo,.int .i64 fe,.int .i64 re_,.int .i64 wk,.int .i64 sy,.string kg] 209)).alloc (.cells #[.int .i64 ki,.int .i64 nu,.int .i64 mo,.int .i64 0,.int .i64 0,.int .i64 0,.int .i64 0,.string ByteArray.empty] 209)).drew):=((Up.alloc _ _).allocs _).trans (Up.refl _).drew
  have hA:Bx (((w.alloc (.cells #[.int .i64 ki,.int .i64 nu,.int .i64 mo,.int .i64 fe,.int .i64 re_,.int .i64 wk,.int .i64 sy,.string kg] 209)).alloc (.cells #[.int .i64 ki,.int .i64 nu,.int .i64 mo,.int .i64 0,.int .i64 0,.int .i64 0,.int .i64 0,.string ByteArray.empty] 209)).drew) w.heap.size (#[.int .i64 ki,.int .i64 nu,.int .i64 mo,.int .i64 fe,.int .i64 re_,.int .i64 wk,.int .i64 sy,.string kg]:Array Value).toList:=((Bx.new w #[.int .i64 ki,.int .i64 nu,.int .i64 mo,.int .i64 fe,.int .i64 re_,.int .i64 wk,.int .i64 sy,.string kg] 209).up (Up.alloc _ _)).up (Up.refl _).drew
  have hB:Bx (((w.alloc (.cells #[.int .i64 ki,.int .i64 nu,.int .i64 mo,.int .i64 fe,.int .i64 re_,.int .i64 wk,.int .i64 sy,.string kg] 209)).alloc (.cells #[.int .i64 ki,.int .i64 nu,.int .i64 mo,.int .i64 0,.int .i64 0,.int .i64 0,.int .i64 0,.string ByteArray.empty] 209)).drew) (w.heap.size+1) (#[.int .i64 ki,.int .i64 nu,.int .i64 mo,.int .i64 0,.int .i64 0,.int .i64 0,.int .i64 0,.string ByteArray.empty]:Array Value).toList:=by
   have h:=(Bx.new (w.alloc (.cells #[.int .i64 ki,.int .i64 nu,.int .i64 mo,.int .i64 fe,.int .i64 re_,.int .i64 wk,.int .i64 sy,.string kg] 209)) #[.int .i64 ki,.int .i64 nu,.int .i64 mo,.int .i64 0,.int .i64 0,.int .i64 0,.int .i64 0,.string ByteArray.empty] 209).up (Up.refl _).drew
   simpa using h
  go_wp2_with first|(go_at_call 284;refine(isMonthDay_any _ _ _).mono ?_;rintro e wn ⟨rfl,v⟩;obtain⟨a0,a1,a2,a3,a4,a5,a6,a7⟩:=(hA.up v).c8;obtain⟨b0,b1,b2,b3,b4,b5,b6,b7⟩:=(hB.up v).c8;have u:=uA.trans v;clear v)|(go_at_call 196;refine(isSmall_any _ _ _ hkg).mono ?_;rintro e wn ⟨rfl,v⟩;obtain⟨a0,a1,a2,a3,a4,a5,a6,a7⟩:=(hA.up v).c8;obtain⟨b0,b1,b2,b3,b4,b5,b6,b7⟩:=(hB.up v).c8;have u:=uA.trans v;clear v)|(go_at_call 285;refine(isRelation_any _ _ _ _).mono ?_;rintro e wn ⟨rfl,rfl⟩)|(go_at_call 64;refine(within_any _ _ _ _).mono ?_;rintro e wn ⟨rfl,rfl⟩)|(go_at_call 254;refine(isStyleYear_any _ _).mono ?_;rintro e wn ⟨rfl,rfl⟩)|(go_at_call 286;refine(isStyle_any _ _).mono ?_;rintro e wn ⟨rfl,rfl⟩)|(go_at_call 287;refine(isKind_any _ _).mono ?_;rintro e wn ⟨rfl,rfl⟩)
  all_goals go_ret
  all_goals refine⟨ret_bool ?_,?_⟩
  all_goals first
   | exact uA
   | exact((Up.alloc _ _).allocs _).drew
   | assumption
   |(simp_all [clB,z0,zs];done)
 ·clear hX0 hY
  go_region
  have uA:Up w (((w.alloc (.cells #[.int .i64 ki,.int .i64 nu,.int .i64 mo,.int .i64 fe,.int .i64 re_,.int .i64 wk,.int .i64 sy,.string kg] 209)).alloc (.cells #[.int .i64 ki,.int .i64 0,.int .i64 0,.int .i64 fe,.int .i64 re_,.int .i64 wk,.int .i64 0,.string ByteArray.empty] 209)).drew):=((Up.alloc _ _).allocs _).trans (Up.refl _).drew
  have hA:Bx (((w.alloc (.cells #[.int .i64 ki,.int .i64 nu,.int .i64 mo,.int .i64 fe,.int .i64 re_,.int .i64 wk,.int .i64 sy,.string kg] 209)).alloc (.cells #[.int .i64 ki,.int .i64 0,.int .i64 0,.int .i64 fe,.int .i64 re_,.int .i64 wk,.int .i64 0,.string ByteArray.empty] 209)).drew) w.heap.size (#[.int .i64 ki,.int .i64 nu,.int .i64 mo,.int .i64 fe,.int .i64 re_,.int .i64 wk,.int .i64 sy,.string kg]:Array Value).toList:=((Bx.new w #[.int .i64 ki,.int .i64 nu,.int .i64 mo,.int .i64 fe,.int .i64 re_,.int .i64 wk,.int .i64 sy,.string kg] 209).up (Up.alloc _ _)).up (Up.refl _).drew
  have hB:Bx (((w.alloc (.cells #[.int .i64 ki,.int .i64 nu,.int .i64 mo,.int .i64 fe,.int .i64 re_,.int .i64 wk,.int .i64 sy,.string kg] 209)).alloc (.cells #[.int .i64 ki,.int .i64 0,.int .i64 0,.int .i64 fe,.int .i64 re_,.int .i64 wk,.int .i64 0,.string ByteArray.empty] 209)).drew) (w.heap.size+1) (#[.int .i64 ki,.int .i64 0,.int .i64 0,.int .i64 fe,.int .i64 re_,.int .i64 wk,.int .i64 0,.string ByteArray.empty]:Array Value).toList:=by
   have h:=(Bx.new (w.alloc (.cells #[.int .i64 ki,.int .i64 nu,.int .i64 mo,.int .i64 fe,.int .i64 re_,.int .i64 wk,.int .i64 sy,.string kg] 209)) #[.int .i64 ki,.int .i64 0,.int .i64 0,.int .i64 fe,.int .i64 re_,.int .i64 wk,.int .i64 0,.string ByteArray.empty] 209).up (Up.refl _).drew
   simpa using h
  go_wp2_with first|(go_at_call 284;refine(isMonthDay_any _ _ _).mono ?_;rintro e wn ⟨rfl,v⟩;obtain⟨a0,a1,a2,a3,a4,a5,a6,a7⟩:=(hA.up v).c8;obtain⟨b0,b1,b2,b3,b4,b5,b6,b7⟩:=(hB.up v).c8;have u:=uA.trans v;clear v)|(go_at_call 196;refine(isSmall_any _ _ _ hkg).mono ?_;rintro e wn ⟨rfl,v⟩;obtain⟨a0,a1,a2,a3,a4,a5,a6,a7⟩:=(hA.up v).c8;obtain⟨b0,b1,b2,b3,b4,b5,b6,b7⟩:=(hB.up v).c8;have u:=uA.trans v;clear v)|(go_at_call 285;refine(isRelation_any _ _ _ _).mono ?_;rintro e wn ⟨rfl,rfl⟩)|(go_at_call 64;refine(within_any _ _ _ _).mono ?_;rintro e wn ⟨rfl,rfl⟩)|(go_at_call 254;refine(isStyleYear_any _ _).mono ?_;rintro e wn ⟨rfl,rfl⟩)|(go_at_call 286;refine(isStyle_any _ _).mono ?_;rintro e wn ⟨rfl,rfl⟩)|(go_at_call 287;refine(isKind_any _ _).mono ?_;rintro e wn ⟨rfl,rfl⟩)
  all_goals go_ret
  all_goals refine⟨ret_bool ?_,?_⟩
  all_goals first
   | exact uA
   | exact((Up.alloc _ _).allocs _).drew
   | assumption
   |(simp_all [clB,z0,zs];done)
 ·clear hX0 hY
  go_region
  have uA:Up w (((w.alloc (.cells #[.int .i64 ki,.int .i64 nu,.int .i64 mo,.int .i64 fe,.int .i64 re_,.int .i64 wk,.int .i64 sy,.string kg] 209)).alloc (.cells #[.int .i64 ki,.int .i64 nu,.int .i64 0,.int .i64 0,.int .i64 0,.int .i64 0,.int .i64 0,.string kg] 209)).drew):=((Up.alloc _ _).allocs _).trans (Up.refl _).drew
  have hA:Bx (((w.alloc (.cells #[.int .i64 ki,.int .i64 nu,.int .i64 mo,.int .i64 fe,.int .i64 re_,.int .i64 wk,.int .i64 sy,.string kg] 209)).alloc (.cells #[.int .i64 ki,.int .i64 nu,.int .i64 0,.int .i64 0,.int .i64 0,.int .i64 0,.int .i64 0,.string kg] 209)).drew) w.heap.size (#[.int .i64 ki,.int .i64 nu,.int .i64 mo,.int .i64 fe,.int .i64 re_,.int .i64 wk,.int .i64 sy,.string kg]:Array Value).toList:=((Bx.new w #[.int .i64 ki,.int .i64 nu,.int .i64 mo,.int .i64 fe,.int .i64 re_,.int .i64 wk,.int .i64 sy,.string kg] 209).up (Up.alloc _ _)).up (Up.refl _).drew
  have hB:Bx (((w.alloc (.cells #[.int .i64 ki,.int .i64 nu,.int .i64 mo,.int .i64 fe,.int .i64 re_,.int .i64 wk,.int .i64 sy,.string kg] 209)).alloc (.cells #[.int .i64 ki,.int .i64 nu,.int .i64 0,.int .i64 0,.int .i64 0,.int .i64 0,.int .i64 0,.string kg] 209)).drew) (w.heap.size+1) (#[.int .i64 ki,.int .i64 nu,.int .i64 0,.int .i64 0,.int .i64 0,.int .i64 0,.int .i64 0,.string kg]:Array Value).toList:=by
   have h:=(Bx.new (w.alloc (.cells #[.int .i64 ki,.int .i64 nu,.int .i64 mo,.int .i64 fe,.int .i64 re_,.int .i64 wk,.int .i64 sy,.string kg] 209)) #[.int .i64 ki,.int .i64 nu,.int .i64 0,.int .i64 0,.int .i64 0,.int .i64 0,.int .i64 0,.string kg] 209).up (Up.refl _).drew
   simpa using h
  go_wp2_with first|(go_at_call 284;refine(isMonthDay_any _ _ _).mono ?_;rintro e wn ⟨rfl,v⟩;obtain⟨a0,a1,a2,a3,a4,a5,a6,a7⟩:=(hA.up v).c8;obtain⟨b0,b1,b2,b3,b4,b5,b6,b7⟩:=(hB.up v).c8;have u:=uA.trans v;clear v)|(go_at_call 196;refine(isSmall_any _ _ _ hkg).mono ?_;rintro e wn ⟨rfl,v⟩;obtain⟨a0,a1,a2,a3,a4,a5,a6,a7⟩:=(hA.up v).c8;obtain⟨b0,b1,b2,b3,b4,b5,b6,b7⟩:=(hB.up v).c8;have u:=uA.trans v;clear v)|(go_at_call 285;refine(isRelation_any _ _ _ _).mono ?_;rintro e wn ⟨rfl,rfl⟩)|(go_at_call 64;refine(within_any _ _ _ _).mono ?_;rintro e wn ⟨rfl,rfl⟩)|(go_at_call 254;refine(isStyleYear_any _ _).mono ?_;rintro e wn ⟨rfl,rfl⟩)|(go_at_call 286;refine(isStyle_any _ _).mono ?_;rintro e wn ⟨rfl,rfl⟩)|(go_at_call 287;refine(isKind_any _ _).mono ?_;rintro e wn ⟨rfl,rfl⟩)
  all_goals go_ret
  all_goals refine⟨ret_bool ?_,?_⟩
  all_goals first
   | exact uA
   | exact((Up.alloc _ _).allocs _).drew
   | assumption
   |(simp_all [clB,z0];done)
 ·clear hX0 hY
  go_region
  have uA:Up w (((w.alloc (.cells #[.int .i64 ki,.int .i64 nu,.int .i64 mo,.int .i64 fe,.int .i64 re_,.int .i64 wk,.int .i64 sy,.string kg] 209)).alloc (.cells #[.int .i64 ki,.int .i64 nu,.int .i64 0,.int .i64 0,.int .i64 0,.int .i64 0,.int .i64 sy,.string ByteArray.empty] 209)).drew):=((Up.alloc _ _).allocs _).trans (Up.refl _).drew
  have hA:Bx (((w.alloc (.cells #[.int .i64 ki,.int .i64 nu,.int .i64 mo,.int .i64 fe,.int .i64 re_,.int .i64 wk,.int .i64 sy,.string kg] 209)).alloc (.cells #[.int .i64 ki,.int .i64 nu,.int .i64 0,.int .i64 0,.int .i64 0,.int .i64 0,.int .i64 sy,.string ByteArray.empty] 209)).drew) w.heap.size (#[.int .i64 ki,.int .i64 nu,.int .i64 mo,.int .i64 fe,.int .i64 re_,.int .i64 wk,.int .i64 sy,.string kg]:Array Value).toList:=((Bx.new w #[.int .i64 ki,.int .i64 nu,.int .i64 mo,.int .i64 fe,.int .i64 re_,.int .i64 wk,.int .i64 sy,.string kg] 209).up (Up.alloc _ _)).up (Up.refl _).drew
  have hB:Bx (((w.alloc (.cells #[.int .i64 ki,.int .i64 nu,.int .i64 mo,.int .i64 fe,.int .i64 re_,.int .i64 wk,.int .i64 sy,.string kg] 209)).alloc (.cells #[.int .i64 ki,.int .i64 nu,.int .i64 0,.int .i64 0,.int .i64 0,.int .i64 0,.int .i64 sy,.string ByteArray.empty] 209)).drew) (w.heap.size+1) (#[.int .i64 ki,.int .i64 nu,.int .i64 0,.int .i64 0,.int .i64 0,.int .i64 0,.int .i64 sy,.string ByteArray.empty]:Array Value).toList:=by
   have h:=(Bx.new (w.alloc (.cells #[.int .i64 ki,.int .i64 nu,.int .i64 mo,.int .i64 fe,.int .i64 re_,.int .i64 wk,.int .i64 sy,.string kg] 209)) #[.int .i64 ki,.int .i64 nu,.int .i64 0,.int .i64 0,.int .i64 0,.int .i64 0,.int .i64 sy,.string ByteArray.empty] 209).up (Up.refl _).drew
   simpa using h
  go_wp2_with first|(go_at_call 284;refine(isMonthDay_any _ _ _).mono ?_;rintro e wn ⟨rfl,v⟩;obtain⟨a0,a1,a2,a3,a4,a5,a6,a7⟩:=(hA.up v).c8;obtain⟨b0,b1,b2,b3,b4,b5,b6,b7⟩:=(hB.up v).c8;have u:=uA.trans v;clear v)|(go_at_call 196;refine(isSmall_any _ _ _ hkg).mono ?_;rintro e wn ⟨rfl,v⟩;obtain⟨a0,a1,a2,a3,a4,a5,a6,a7⟩:=(hA.up v).c8;obtain⟨b0,b1,b2,b3,b4,b5,b6,b7⟩:=(hB.up v).c8;have u:=uA.trans v;clear v)|(go_at_call 285;refine(isRelation_any _ _ _ _).mono ?_;rintro e wn ⟨rfl,rfl⟩)|(go_at_call 64;refine(within_any _ _ _ _).mono ?_;rintro e wn ⟨rfl,rfl⟩)|(go_at_call 254;refine(isStyleYear_any _ _).mono ?_;rintro e wn ⟨rfl,rfl⟩)|(go_at_call 286;refine(isStyle_any _ _).mono ?_;rintro e wn ⟨rfl,rfl⟩)|(go_at_call 287;refine(isKind_any _ _).mono ?_;rintro e wn ⟨rfl,rfl⟩)
  all_goals go_ret
  all_goals refine⟨ret_bool ?_,?_⟩
  all_goals first
   | exact uA
   | exact((Up.alloc _ _).allocs _).drew
   | assumption
   |(simp_all [clB,z0,zs];done)
 ·clear hX0 hY
  go_region
  have uA:Up w (((w.alloc (.cells #[.int .i64 ki,.int .i64 nu,.int .i64 mo,.int .i64 fe,.int .i64 re_,.int .i64 wk,.int .i64 sy,.string kg] 209)).alloc (.cells #[.int .i64 ki,.int .i64 nu,.int .i64 0,.int .i64 0,.int .i64 0,.int .i64 0,.int .i64 sy,.string ByteArray.empty] 209)).drew):=((Up.alloc _ _).allocs _).trans (Up.refl _).drew
  have hA:Bx (((w.alloc (.cells #[.int .i64 ki,.int .i64 nu,.int .i64 mo,.int .i64 fe,.int .i64 re_,.int .i64 wk,.int .i64 sy,.string kg] 209)).alloc (.cells #[.int .i64 ki,.int .i64 nu,.int .i64 0,.int .i64 0,.int .i64 0,.int .i64 0,.int .i64 sy,.string ByteArray.empty] 209)).drew) w.heap.size (#[.int .i64 ki,.int .i64 nu,.int .i64 mo,.int .i64 fe,.int .i64 re_,.int .i64 wk,.int .i64 sy,.string kg]:Array Value).toList:=((Bx.new w #[.int .i64 ki,.int .i64 nu,.int .i64 mo,.int .i64 fe,.int .i64 re_,.int .i64 wk,.int .i64 sy,.string kg] 209).up (Up.alloc _ _)).up (Up.refl _).drew
  have hB:Bx (((w.alloc (.cells #[.int .i64 ki,.int .i64 nu,.int .i64 mo,.int .i64 fe,.int .i64 re_,.int .i64 wk,.int .i64 sy,.string kg] 209)).alloc (.cells #[.int .i64 ki,.int .i64 nu,.int .i64 0,.int .i64 0,.int .i64 0,.int .i64 0,.int .i64 sy,.string ByteArray.empty] 209)).drew) (w.heap.size+1) (#[.int .i64 ki,.int .i64 nu,.int .i64 0,.int .i64 0,.int .i64 0,.int .i64 0,.int .i64 sy,.string ByteArray.empty]:Array Value).toList:=by
   have h:=(Bx.new (w.alloc (.cells #[.int .i64 ki,.int .i64 nu,.int .i64 mo,.int .i64 fe,.int .i64 re_,.int .i64 wk,.int .i64 sy,.string kg] 209)) #[.int .i64 ki,.int .i64 nu,.int .i64 0,.int .i64 0,.int .i64 0,.int .i64 0,.int .i64 sy,.string ByteArray.empty] 209).up (Up.refl _).drew
   simpa using h
  go_wp2_with first|(go_at_call 284;refine(isMonthDay_any _ _ _).mono ?_;rintro e wn ⟨rfl,v⟩;obtain⟨a0,a1,a2,a3,a4,a5,a6,a7⟩:=(hA.up v).c8;obtain⟨b0,b1,b2,b3,b4,b5,b6,b7⟩:=(hB.up v).c8;have u:=uA.trans v;clear v)|(go_at_call 196;refine(isSmall_any _ _ _ hkg).mono ?_;rintro e wn ⟨rfl,v⟩;obtain⟨a0,a1,a2,a3,a4,a5,a6,a7⟩:=(hA.up v).c8;obtain⟨b0,b1,b2,b3,b4,b5,b6,b7⟩:=(hB.up v).c8;have u:=uA.trans v;clear v)|(go_at_call 285;refine(isRelation_any _ _ _ _).mono ?_;rintro e wn ⟨rfl,rfl⟩)|(go_at_call 64;refine(within_any _ _ _ _).mono ?_;rintro e wn ⟨rfl,rfl⟩)|(go_at_call 254;refine(isStyleYear_any _ _).mono ?_;rintro e wn ⟨rfl,rfl⟩)|(go_at_call 286;refine(isStyle_any _ _).mono ?_;rintro e wn ⟨rfl,rfl⟩)|(go_at_call 287;refine(isKind_any _ _).mono ?_;rintro e wn ⟨rfl,rfl⟩)
  all_goals go_ret
  all_goals refine⟨ret_bool ?_,?_⟩
  all_goals first
   | exact uA
   | exact((Up.alloc _ _).allocs _).drew
   | assumption
   |(simp_all [clB,z0,zs];done)
 all_goals go_ret
 all_goals refine⟨ret_bool ?_,?_⟩
 all_goals first
  | exact(Up.alloc _ _).allocs _
  |(simp_all [clB,z0,zs,inB];done)
  |(simp_all [clB,z0,zs,inB];intros;omega)
theorem isDatingC(c:Cl)(w:World)(hc:c.ok) :
 Calls Tryz.prog 243 #[c.val] w fun e w'=>e=.returned (.bool (!clB c))∧Up w w':=by
 have C:=fun wx=>implIsClause_any c wx hc
 have u:=Up.alloc w (.cells #[.int .i64 c.ki,.int .i64 c.nu,.int .i64 c.mo,.int .i64 c.fe,.int .i64 c.re_,.int .i64 c.wk,.int .i64 c.sy,.string c.kg] 209)
 go_enter Tryz.func243,Tryz.ntmps243
 go_wp2_with (go_at_call 244;refine(C _).mono ?_;rintro e w1 ⟨rfl,v⟩)
 go_ret;exact⟨rfl,u.trans v⟩
theorem implIsDating_any(s:Sl Cl)(lo hi:Nat)(w:World)(h:SrCl w lo hi s) :
 Calls Tryz.prog 198 #[.slice s.A s.l.length s.c] w fun e w'=>e=.returned (.bool (dtB s.l))∧Up w w':=by
 obtain⟨A,c,l⟩:=s
 have hn:l.length≤2000000:=h.len
 have hc:=qh (containsFuncCl_any A l c lo hi 243 #[] (fun x=>!clB x) w h.rd h.hhi hn (fun _ _=>by kernel_rfl) (fun d hd w1 hu=>isDatingC d w1 (h.ok d hd)))
 clear h;show Calls _ _ #[.slice A l.length c] _ fun e w'=>e=.returned (.bool (dtB l))∧_
 by_cases h:l.length≤8
 ·have hb:decide ((l.length:Int)≤8)=true:=by simp;omega
  go_enter Tryz.func198,Tryz.ntmps198
  go_wp2_with (go_at_call 164;refine hc.out.mono ?_;rintro e w1 ⟨rfl,v⟩)
  go_ret;exact⟨ret_bool (by unfold dtB;rw[decide_eq_true h];simp[List.all_eq_not_any_not]),v⟩
 ·have hb:decide ((l.length:Int)≤8)=false:=by simp;omega
  go_enter Tryz.func198,Tryz.ntmps198
  go_wp2;go_ret;exact⟨ret_bool (by unfold dtB;rw[decide_eq_false h];rfl),Up.refl _⟩
end Go.Proofs.YtihcmhmanfobcaaGreatDoor
