/- The days that fit a dating, the reference's. -/
import Derived.Test.YtihcmhmanfobcaaGreatDoorCd
set_option maxHeartbeats 4000000
set_option maxRecDepth 100000
namespace Go.Proofs.YtihcmhmanfobcaaGreatDoor
open Go.RowKit Go.Sort
theorem ftB_no{rs:List Nm}{l:List Cl}{k:Nat}{d:Cl}{n:Int}(hd:l[k]?=some d)(h:hdB rs d n=false):ftB rs l n=false:=by
 unfold ftB
 rw[List.all_eq_false];exact⟨d,List.mem_of_getElem? hd,by simp[h]⟩
theorem ftB_end{rs:List Nm}{l:List Cl}{n:Int}(h:∀k d,k<l.length→l[k]?=some d→hdB rs d n=true):ftB rs l n=true:=by
 unfold ftB
 rw[List.all_eq_true];intro x hx
 obtain⟨j,hj,e⟩:=List.getElem_of_mem hx
 exact h j x hj (by rw[List.getElem?_eq_getElem hj,e])
theorem l12Fits_any(A B:Option Addr)(l:List Nm)(m:List Cl)(ca cb lo hi lo' hi':Nat)(fr to_ n:Int)(w:World)(hr:RdNm w lo hi A l)(hhi:hi≤w.heap.size)(hn:l.length≤2000000)(hsp:∀d∈l,spanB d.fr d.to_=true)
 (hr':RdCl w lo' hi' B m) (hhi':hi'≤w.heap.size) (hm:m.length≤2000000) (hcl:∀c∈m,clB c=true) (h0:0≤n) (h1:n≤730499) :
 Calls Tryz.prog 96 #[.agg #[.slice A l.length ca,.int .i64 fr,.int .i64 to_],.slice B m.length cb,.int .i64 n] w fun e w'=>e=.returned (.bool (ftB l m n))∧Up w w':=by
 have u:=Up.alloc w (.cells #[.slice A l.length ca,.int .i64 fr,.int .i64 to_] 48)
 have hC:=Bx.new w #[.slice A l.length ca,.int .i64 fr,.int .i64 to_] 48
 have HCL:=qh hcl
 have HSP:=qh hsp
 clear hcl hsp;go_enter Tryz.func96,Tryz.ntmps96
 go_wp2_with fail
 generalize w.alloc (.cells #[.slice A l.length ca,.int .i64 fr,.int .i64 to_] 48)=W0 at *
 go_loopw [7] (fun i wr=>∃k:Nat,k≤m.length∧i=.int .i64 k∧Hid (∀j d,j<k→m[j]?=some d→hdB l d n=true)∧Bx wr w.heap.size [.slice A l.length ca,.int .i64 fr,.int .i64 to_]∧Up w wr) (fun i _=>m.length-(intOf i).toNat)
 case atStart=>exact⟨0,Nat.zero_le _,rfl,qh (fun j d h=>absurd h (by omega)),hC,u⟩
 case round =>
  clear hC u;obtain⟨k,hk,rfl,hb,hC,u⟩:=hrel
  obtain⟨c0,c1,c2⟩:=hC.c3
  by_cases hlt:k<m.length
  ·obtain⟨b,off,d,rfl,-,-,hd,q0,q1,q2,q3,q4,q5,q6,q7⟩:=(hr'.up u hhi').cl hlt
   have HD:=qh hd
   have cH:=fun(wx:World) (v:Up wr wx)=>l11Holds_any A l ca lo hi d n wx (hr.up (u.trans v) hhi) (Nat.le_trans hhi (u.trans v).size) hn HSP.out (HCL.out d (List.mem_of_getElem? hd)) h0 h1
   clear hd;obtain⟨bb,hbb⟩:∃z,z=hdB l d n:=⟨_,rfl⟩
   simp only[← hbb]at cH
   have HB:=qh hbb
   have cN:∀dd os,Calls Tryz.prog 146 #[.slice A l.length ca,d.val,.int .i64 n] (grow (redrawn wr dd) os) fun e w''=>e=.returned (.bool bb)∧∃p:Regrown,w''=grow (redrawn wr p.d) p.os:=fun dd os=>Calls.regrown_of (cH _ (below_regrown _ _ _))
   clear hbb cH;obtain⟨ki,nu,mo,fe,re,wk,sy,kg⟩:=d
   simp only[]at *;have C0:=cell_regrown c0
   have Q0:=cell_regrown q0
   have Q1:=cell_regrown q1
   have Q2:=cell_regrown q2
   have Q3:=cell_regrown q3
   have Q4:=cell_regrown q4
   have Q5:=cell_regrown q5
   have Q6:=cell_regrown q6
   have Q7:=cell_regrown q7
   clear q0 q1 q2 q3 q4 q5 q6 q7 c0 c1 c2;rcases bb with _|_
   all_goals
    go_wp2_with fail
    refine wp_region_quiet_below (by kernel_rfl) (by kernel_rfl) ?_
   all_goals
    repeat (first|go_big_quiet_step ((go_at_call 146;exact cN _ _))|quiet_step ((go_at_call 146;exact cN _ _)))
   all_goals
    refine wpQuiet_nil ?_
    intro w3 hw3
    obtain⟨⟨dq,osq⟩,hw3⟩:=hw3
    have v:Up wr w3:=by rw[hw3];exact below_regrown _ _ _
    replace u:=u.trans v;replace hC:=hC.up v;clear hw3 C0 Q0 Q1 Q2 Q3 Q4 Q5 Q6 Q7 cN v
   ·go_wp2
    go_ret;exact⟨ret_bool (ftB_no HD.out HB.out.symm).symm,u⟩
   ·go_wp2
    go_roundw
    case rel=>exact⟨k+1,by omega,by go_num,qh (allK_step (q:=fun _ d=>hdB l d n) hb.out HD.out HB.out.symm),hC,u⟩
    case measure=>simp[intOf];omega
  ·have HE:=qh (ftB_end (rs:=l) (l:=m) (n:=n) (fun j d hj hd=>hb.out j d (by omega) hd))
   go_wp2;go_ret;exact⟨ret_bool HE.out.symm,u⟩
theorem dstp_len(o:List Sp)(n:Int):(dstp o n).length≤o.length+1:=by
 rcases List.eq_nil_or_concat o with rfl|⟨o,z,rfl⟩<;>try rw[List.concat_eq_append]at *
 ·simp[dstp_nil]
 ·rw[dstp_snoc];split<;>simp
theorem daysF_len(p:Int→Bool)(a:Int):∀k,(daysF p a k).length≤k
 | 0=>by simp[daysF]
 | k+1=>by
   have:=daysF_len p a k
   rw[daysF_s];split
   ·have:=dstp_len (daysF p a k) (a+k);omega
   ·omega
theorem daysF_bd(p:Int→Bool){a:Int}(h0:0≤a)(k:Nat)(hk:a+k≤730500):∀s∈daysF p a k,0≤s.1∧s.1≤s.2∧s.2≤730499:=fun s hs=>(daysF_nm p h0 k hk).1.2 s hs
noncomputable def fitS (rs:List Nm) (l:List Cl) (a b:Int):List Sp:=dset fun n=>inB n a b && ftB rs l n
theorem daysF_fit{rs:List Nm}{l:List Cl}{a b:Int}{k:Nat}(h0:0≤a)(hk:a+k=b+1)(hb:b≤730499):daysF (ftB rs l) a k=fitS rs l a b:=by
 rw[dset_win _ h0 (by omega)]
 refine dset_congr fun n _ _=>?_
 congr 1
 rw[Bool.eq_iff_iff];simp[inB];omega
theorem l12Set_any(A B:Option Addr)(l:List Nm)(m:List Cl)(ca cb lo hi lo' hi':Nat)(fr to_:Int)(w:World)(hr:RdNm w lo hi A l)(hhi:hi≤w.heap.size)(hn:l.length≤2000000)(hsp:∀d∈l,spanB d.fr d.to_=true)
 (hr':RdCl w lo' hi' B m) (hhi':hi'≤w.heap.size) (hm:m.length≤2000000) (hcl:∀c∈m,clB c=true) (h0:0≤fr) (h1:to_≤730499) (hft:fr≤to_) :
 Calls Tryz.prog 50 #[.agg #[.slice A l.length ca,.int .i64 fr,.int .i64 to_],.slice B m.length cb] w fun e w'=>∃v,e=.returned v∧w'.ownsRow w.heap.size 84 2 v (fitS l m fr to_).length ((fitS l m fr to_).flatMap spC)∧Up w w':=by
 obtain⟨i0,hi0,hz0,hz1,hz2⟩:=info_parts infoSp
 have u:=Up.alloc w (.cells #[.slice A l.length ca,.int .i64 fr,.int .i64 to_] 48)
 have hC:=Bx.new w #[.slice A l.length ca,.int .i64 fr,.int .i64 to_] 48
 have CF:=qh (fun(n:Int) (wx:World) (v:Up w wx) (a:0≤n) (b:n≤730499)=>l12Fits_any A B l m ca cb lo hi lo' hi' fr to_ n wx (hr.up v hhi) (Nat.le_trans hhi v.size) hn hsp (hr'.up v hhi') (Nat.le_trans hhi' v.size) hm hcl a b)
 clear hr hhi hn hsp hr' hhi' hm hcl;have HFS:=qh (fun(k:Nat) (e:fr+(k:Int)=to_+1)=>daysF_fit (rs:=l) (l:=m) (k:=k) h0 e h1)
 obtain⟨p,hp⟩:∃z,z=ftB l m:=⟨_,rfl⟩
 have HP:=qh hp
 rw[← hp]at HFS;simp only[← hp]at CF
 clear hp;go_enter Tryz.func50,Tryz.ntmps50
 go_wp2_with fail
 have hsz:(w.alloc (.cells #[.slice A l.length ca,.int .i64 fr,.int .i64 to_] 48)).heap.size=w.heap.size+1:=by simp
 generalize w.alloc (.cells #[.slice A l.length ca,.int .i64 fr,.int .i64 to_] 48)=W0 at *
 have hown0:=World.ownsRow_lit (base:=W0.heap.size) (e:=84) (size:=2) W0 #[] 0 (Nat.le_refl _) (by simp[maxLen]) rfl
 have hup0:=(Up.refl W0).allocs (.cells #[] 84)
 obtain⟨v0,hv0⟩:∃v,v=Value.slice (some ⟨w.heap.size+1,0,none⟩) 0 0:=⟨_,rfl⟩
 rw[show Value.slice (some ⟨W0.heap.size,0,none⟩) 0 0=v0 by rw[hv0,hsz]]at hown0
 rw[← hv0];clear hsz;generalize W0.alloc (.cells #[] 84)=w2 at *
 clear hv0;go_loopw [5,6,7] (fun o tn la wi=>∃k:Nat,∃n:Int,∃O:List Sp,n=fr+k∧n≤to_+1∧tn=.int .i64 n∧Hid (O=daysF p fr k)∧wi.ownsRow W0.heap.size 84 2 o O.length (O.flatMap spC)∧Up W0 wi) (fun _ tn _ _=>(to_+1-intOf tn).toNat)
 case atStart=>exact⟨0,fr,[],by omega,by omega,rfl,qh rfl,hown0,hup0⟩
 case round =>
  clear hown0 hup0;obtain⟨k,n,O,hnk,hnt,rfl,HO,hown,hui⟩:=hrel
  have hC:=hC.up hui
  have hOn:O.length≤k:=by rw[HO.out];exact daysF_len _ _ _
  have hn0:0≤n∧n≤730500:=by omega
  obtain⟨c0,c1,c2⟩:=hC.c3
  by_cases hlt:n≤to_
  ·have HOB:=qh (show ∀s∈O,0≤s.1∧s.1≤s.2∧s.2≤730499 by rw[HO.out];exact daysF_bd p h0 k (by omega))
   have cF:=fun wx v=>CF.out n wx v (by omega) (by omega)
   have HS:=qh (show daysF p fr (k+1)=if p n=true then dstp O n else O by rw[daysF_s,← hnk,← HO.out])
   obtain⟨bb,hbb⟩:∃z,z=p n:=⟨_,rfl⟩
   simp only[← hbb]at cF
   rw[← hbb]at HS;have CN:=qh cF
   clear cF hbb;have hk1:k≤800000:=by omega
   have HNK:=qh hnk
   clear hnk;rcases bb with _|_
   ·go_wp2_with fail
    refine(CN.out _ (u.trans hui)).mono ?_
    rintro e w7 ⟨rfl,v⟩
    replace hown:=own_up hown v;replace hui:=hui.trans v;clear v c0 c1 c2 hC;go_wp2;go_roundw
    case rel=>exact⟨k+1,n+1,O,by(have:=HNK.out;omega),by omega,rfl,qh HS.out.symm,hown,hui⟩
    case measure=>simp[intOf];omega
   ·go_wp2_with fail
    refine(CN.out _ (u.trans hui)).mono ?_
    rintro e w7 ⟨rfl,v⟩
    replace hown:=own_up hown v;replace hui:=hui.trans v;clear v c0 c1 c2 hC;rcases List.eq_nil_or_concat O with rfl|⟨o',z,rfl⟩
    ·simp only[List.length_nil,List.flatMap_nil]at hown
     obtain⟨A',c',rfl,hc',hm',hA,-⟩:=own_form hown
     have n1:0+1≤maxLen:=by unfold maxLen;omega
     have n2:(0+1)*16≤140737488355328:=by omega
     have n3:W0.heap.size≤(w7.alloc (.cells #[.int .i64 n,.int .i64 n] 84)).heap.size:=(hui.allocs _).size
     go_wp2_with ((at_builtin;refine wpList_append_own _ rfl _ _ 76 rfl W0.heap.size 84 i0 _ 2 16 Tryz.underlying76 hi0 hz0 hz1 hz2 rfl (by decide) _ _ _ rfl (hown.alloc _) ⟨w7.heap.size,0,none⟩ 1 1 [.int .i64 n,.int .i64 n] rfl rfl (cell_two_newP _ _ _ _) (by simp[Value.oneCell']) n1 n2 n3 ?_))
     intro v' w4 hown' hgrow _
     have hu4:=(hui.allocs (.cells #[.int .i64 n,.int .i64 n] 84)).grown hgrow (fun k hk=>(hown.lt k hk).1)
     clear hgrow hown;have HO4:=qh hown'
     clear hown';go_wp2;go_roundw
     case rel=>exact⟨k+1,n+1,[(n,n)],by(have:=HNK.out;omega),by omega,rfl,qh (by rw[HS.out,if_pos trivial,dstp_nil]),by simpa[spC] using HO4.out,hu4⟩
     case measure=>simp[intOf];omega
    ·rw[List.concat_eq_append]at *
     obtain⟨zf,zt⟩:=z
     have hzb:=HOB.out (zf,zt) (by simp)
     simp only at hzb
     have hzget:(o'++[(zf,zt)])[o'.length]?=some (zf,zt):=by simp
     simp only[List.length_append,List.length_singleton]at hown hOn
     obtain⟨q,hq⟩:∃q,q=o'.length:=⟨_,rfl⟩
     rw[← hq]at hzget hown hOn;have HM:=qh hq
     clear hq;obtain⟨r,hrq⟩:∃r,r=q+1:=⟨_,rfl⟩
     rw[← hrq]at hown hOn;have hqr:q<r:=by omega
     have hidx:IntKind.i64.wrap ((r:Int)-1)=(q:Int):=by rw[IntWalk.i64_in _ (by omega)];omega
     have hr5:r≤800000:=by omega
     have hr6:1≤r:=by omega
     have HNM:=qh hrq
     clear hrq;obtain⟨A',c',rfl,hc',hm',hA,-⟩:=own_form hown
     obtain⟨g',rfl,hg1,hg2⟩:=hA (by omega)
     have r1:=(hown.cellAt (q*2+1) (by omega)).trans (flat_get spC 2 spC_len _ q _ hzget 1 _ rfl)
     clear hzget;obtain⟨b,hb⟩:∃z,(zt==n-1)=z:=⟨_,rfl⟩
     have HB:=qh (show dstp (o'++[(zf,zt)]) n=if b=true then o'++[(zf,n)] else o'++[(zf,zt)]++[(n,n)] by rw[dstp_snoc,← hb];simp)
     rcases b with _|_
     ·have n1:r+1≤maxLen:=by unfold maxLen;omega
      have n2:(r+1)*16≤140737488355328:=by omega
      have n3:W0.heap.size≤(w7.alloc (.cells #[.int .i64 n,.int .i64 n] 84)).heap.size:=(hui.allocs _).size
      go_wp2_with ((at_builtin;refine wpList_append_own _ rfl _ _ 76 rfl W0.heap.size 84 i0 _ 2 16 Tryz.underlying76 hi0 hz0 hz1 hz2 rfl (by decide) _ _ _ rfl (hown.alloc _) ⟨w7.heap.size,0,none⟩ 1 1 [.int .i64 n,.int .i64 n] rfl rfl (cell_two_newP _ _ _ _) (by simp[Value.oneCell']) n1 n2 n3 ?_))
      intro v' w4 hown' hgrow _
      have hu4:=(hui.allocs (.cells #[.int .i64 n,.int .i64 n] 84)).grown hgrow (fun k hk=>(hown.lt k hk).1)
      clear hgrow hown;have HO4:=qh hown'
      clear hown' r1;go_wp2;go_roundw
      case rel=>exact⟨k+1,n+1,o'++[(zf,zt)]++[(n,n)],by(have:=HNK.out;omega),by omega,rfl,qh (by rw[HS.out,if_pos trivial,HB.out];simp),by(have h4:=HO4.out;rw[HNM.out,HM.out]at h4;simpa[spC] using h4),hu4⟩
      case measure=>simp[intOf];omega
     ·have z1:=hown.frozenAt (q*2+1)
      have s1:=hown.stored (q*2+1) (.int .i64 n)
      have hset:=last_set (o:=o') (z:=(zf,zt)) (t:=n)
      rw[← HM.out]at hset;rw[hset]at s1;have SS:=qh (And.intro s1.1 (hui.grown s1.2 (fun k hk=>by simp at hk;omega)))
      clear s1 hset hown;go_wp2;go_roundw
      case rel=>exact⟨k+1,n+1,o'++[(zf,n)],by(have:=HNK.out;omega),by omega,rfl,qh (by rw[HS.out,if_pos trivial,HB.out];simp),by(rw[List.length_append,List.length_singleton,← HM.out,← HNM.out];exact SS.out.1),SS.out.2⟩
      case measure=>simp[intOf];omega
  ·have hfin:O=fitS l m fr to_:=by rw[HO.out];exact HFS.out k (by omega)
   clear hnk HO;subst hfin;go_wp2;go_ret;exact⟨_,rfl,own_base hown u.size,u.trans hui⟩
theorem ofL_yes{l:List Tm}{o p:ByteArray}{k:Nat}{d:Tm}(hd:l[k]?=some d)(h:(d.of_.toList==o.toList)=true)(h2:(d.pe.toList==p.toList)=true):ofL (l.take (k+1)) o p=ofL (l.take k) o p++[(d.fr,d.to_)]:=by
 unfold ofL
 rw[List.take_succ_eq_append_getElem (List.getElem?_eq_some_iff.1 hd).1,(List.getElem?_eq_some_iff.1 hd).2,List.filter_append,List.map_append];simp[h,h2]
theorem ofL_no{l:List Tm}{o p:ByteArray}{k:Nat}{d:Tm}(hd:l[k]?=some d)(h:((d.of_.toList==o.toList) && (d.pe.toList==p.toList))=false):ofL (l.take (k+1)) o p=ofL (l.take k) o p:=by
 unfold ofL
 rw[List.take_succ_eq_append_getElem (List.getElem?_eq_some_iff.1 hd).1,(List.getElem?_eq_some_iff.1 hd).2,List.filter_append,List.map_append];simp[h]
theorem l13Office_any(PA:Option Addr)(pn pc:Nat)(s:Sl Tm)(of pe:ByteArray)(lo hi:Nat)(w:World)(h:SrTm w lo hi s)(hn':s.l.length≤100000)(hd':∀d∈s.l,spanB d.fr d.to_=true) :
 Calls Tryz.prog 147 #[.agg #[.slice PA pn pc,.slice s.A s.l.length s.c],.string of,.string pe] w fun e w'=>∃v,e=.returned v∧w'.ownsRow w.heap.size 84 2 v (unL (ofL s.l of pe)).length ((unL (ofL s.l of pe)).flatMap spC)∧Up w w':=by
 obtain⟨A,c,l⟩:=s
 have hr:=h.rd
 have hhi:=h.hhi
 have hn:l.length≤100000:=hn'
 have HDY:=qh (show ∀d∈l,spanB d.fr d.to_=true from hd')
 obtain⟨i0,hi0,hz0,hz1,hz2⟩:=info_parts infoSp
 clear h hn' hd';show Calls _ _ #[.agg #[.slice PA pn pc,.slice A l.length c],_,_] _ fun e w'=>∃v,e=.returned v∧w'.ownsRow w.heap.size 84 2 v (unL (ofL l of pe)).length ((unL (ofL l of pe)).flatMap spC)∧Up w w'
 have u:=Up.alloc w (.cells #[.slice PA pn pc,.slice A l.length c] 52)
 have hC:=Bx.new w #[.slice PA pn pc,.slice A l.length c] 52
 go_enter Tryz.func147,Tryz.ntmps147
 go_wp2_with fail
 have hsz:(w.alloc (.cells #[.slice PA pn pc,.slice A l.length c] 52)).heap.size=w.heap.size+1:=by simp
 generalize w.alloc (.cells #[.slice PA pn pc,.slice A l.length c] 52)=W0 at *
 have hown0:=World.ownsRow_lit (base:=W0.heap.size) (e:=84) (size:=2) W0 #[] 0 (Nat.le_refl _) (by simp[maxLen]) rfl
 have hup0:=(Up.refl W0).allocs (.cells #[] 84)
 obtain⟨v0,hv0⟩:∃v,v=Value.slice (some ⟨w.heap.size+1,0,none⟩) 0 0:=⟨_,rfl⟩
 rw[show Value.slice (some ⟨W0.heap.size,0,none⟩) 0 0=v0 by rw[hv0,hsz]]at hown0
 rw[← hv0];clear hsz;generalize W0.alloc (.cells #[] 84)=w2 at *
 clear hv0;go_loopw [7,8] (fun o i wr=>∃k:Nat,∃O:List Sp,k≤l.length∧i=.int .i64 k∧O=ofL (l.take k) of pe∧O.length≤k∧wr.ownsRow W0.heap.size 84 2 o O.length (O.flatMap spC)∧Up W0 wr) (fun _ i _=>l.length-(intOf i).toNat)
 case atStart=>exact⟨0,[],Nat.zero_le _,rfl,rfl,Nat.zero_le _,hown0,hup0⟩
 case round =>
  clear hown0 hup0;obtain⟨k,O,hk,rfl,hO,hOn,hown,hui⟩:=hrel
  have HO:=qh hO
  clear hO;obtain⟨Ao,co,rfl,hco,hcm,-,-⟩:=own_form hown
  have hup:=u.trans hui
  obtain⟨c0,c1⟩:=(hC.up hui).c2
  by_cases hlt:k<l.length
  ·obtain⟨b,off,d,rfl,hlo,hb,hd,q0,q1,q2,q3⟩:=(hr.up hup hhi).tm hlt
   have HD:=qh hd
   clear hd;rcases he:(d.of_.toList==of.toList) with _|_
   ·have HT:=qh (show((d.of_.toList==of.toList) && (d.pe.toList==pe.toList))=false by rw[he];rfl)
    go_wp2;go_roundw
    case rel=>exact⟨k+1,O,by omega,by go_num,by rw[ofL_no HD.out HT.out];exact HO.out,by omega,hown,hui⟩
    case measure=>simp[intOf];omega
   ·rcases he2:(d.pe.toList==pe.toList) with _|_
    ·have HT:=qh (show((d.of_.toList==of.toList) && (d.pe.toList==pe.toList))=false by rw[he,he2];rfl)
     go_wp2;go_roundw
     case rel=>exact⟨k+1,O,by omega,by go_num,by rw[ofL_no HD.out HT.out];exact HO.out,by omega,hown,hui⟩
     case measure=>simp[intOf];omega
    ·have HT:=qh he
     have HT2:=qh he2
     have n1:O.length+1≤maxLen:=by unfold maxLen;omega
     have n2:(O.length+1)*16≤140737488355328:=by omega
     have hal:=hui.allocs (.cells #[.int .i64 d.fr,.int .i64 d.to_] 84)
     have hzm:(Value.agg #[.int .i64 0,.int .i64 0]).cells.size=2:=rfl
     have HOA:=qh (hown.alloc (.cells #[.int .i64 d.fr,.int .i64 d.to_] 84))
     have HCN:=qh (cell_two_newP wr (.int .i64 d.fr) (.int .i64 d.to_) 84)
     have HON:Hid (∀u∈[Value.int .i64 d.fr,.int .i64 d.to_],u.oneCell'=true):=qh (by simp[Value.oneCell'])
     go_wp2_with fail
     clear q0 q1 c0;go_region_law (first
      |(refine step_append_ownP _ rfl (.tmp 35) (.tmp 49) 76 rfl W0.heap.size 84 i0 _ 2 16 Tryz.underlying76 hi0 hz0 hz1 hz2 hzm (by decide) (.slice Ao O.length co) O.length (O.flatMap spC) (by simp[Act.eval]) HOA.out ⟨wr.heap.size,0,none⟩ 1 1 [.int .i64 d.fr,.int .i64 d.to_] (by simp[Act.eval]) rfl HCN.out HON.out n1 n2 hal.size ?_
        intro v2 w4 hown2 hgrow
        have hu4:=(hal.drew).grown hgrow (fun k hk=>(hown.lt k hk).1)
        have hown':=hown2))
     all_goals
      clear hgrow hown2 hown q2 q3 c1;go_wp2;go_roundw
      case rel=>exact⟨k+1,O++[(d.fr,d.to_)],by omega,by go_num,by rw[ofL_yes HD.out HT.out HT2.out,HO.out],by simp;omega,by simpa[spC] using hown',hu4⟩
      case measure=>simp[intOf];omega
  ·obtain rfl:k=l.length:=by omega
   have hfin:O=ofL l of pe:=by rw[HO.out,List.take_of_length_le (Nat.le_refl _)]
   have hbd:BdS O:=by rw[hfin];exact(ofL_dy HDY.out).bd.1
   have HM:=qh (specMake_any Ao O co W0.heap.size wr.heap.size wr (Rd.own spC_len hown) (Nat.le_refl _) (by omega) hbd)
   have HE:=qh hfin
   clear hfin hbd;go_wp2_with fail
   refine HM.out.mono ?_
   rintro e w3 ⟨v,rfl,ho,hu3⟩
   have HO3:=qh (own_base ho hup.size)
   clear ho;go_wp2;go_ret;exact⟨v,rfl,by rw[← HE.out];exact HO3.out,hup.trans hu3⟩
end Go.Proofs.YtihcmhmanfobcaaGreatDoor
