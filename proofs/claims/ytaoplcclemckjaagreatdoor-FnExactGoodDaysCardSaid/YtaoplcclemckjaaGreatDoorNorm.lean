/- Normal forms of words, plainly. -/
import Derived.Test.YtaoplcclemckjaaGreatDoorProg
import Derived.Test.YtaoplcclemckjaaGreatDoorLib
import Derived.Laws.IdiomStrings
set_option maxHeartbeats 4000000
set_option maxRecDepth 100000
namespace Go.Proofs.YtaoplcclemckjaaGreatDoor
open Go.RowKit
def rep1(b:UInt8):List UInt8:=if b=118 then [117] else if b=106 then [105] else if b=121 then [105] else if b=119 then [117,117] else [b]
def wideL(l:List UInt8):List UInt8:=l.flatMap rep1
def sqK(l:List UInt8)(k:Nat):List UInt8:=(List.range k).flatMap fun i=>if i=0∨l[i]?≠l[i-1]? then l[i]?.toList else []
def chopL(l:List UInt8):List UInt8:=if 3≤l.length∧l[l.length-1]?=some 101 then l.take (l.length-1) else l
def nrmL(l:List UInt8):List UInt8:=chopL (sqK (wideL l) (wideL l).length)
def nrm(s:ByteArray):ByteArray:=⟨(nrmL s.data.toList).toArray⟩
theorem rep1_len(b:UInt8):(rep1 b).length≤2:=by unfold rep1;repeat' split
                                                all_goals simp
theorem wideL_len:∀l:List UInt8,(wideL l).length≤2*l.length
 | []=>by simp[wideL]
 | b :: l=>by
   have:=wideL_len l
   have h:=rep1_len b
   unfold wideL at this ⊢
   rw[List.flatMap_cons,List.length_append,List.length_cons];omega
theorem wideL_succ{l:List UInt8}{k:Nat}{b:UInt8}(h:l[k]?=some b):wideL (l.take (k+1))=wideL (l.take k)++rep1 b:=by
 have hk:k<l.length:=(List.getElem?_eq_some_iff.1 h).1
 unfold wideL
 rw[List.take_succ_eq_append_getElem hk,List.flatMap_append];simp[(List.getElem?_eq_some_iff.1 h).2]
theorem sqK_skip{l:List UInt8}{k:Nat}(hk:k≠0)(h:l[k]?=l[k-1]?):sqK l (k+1)=sqK l k:=by
 unfold sqK;rw[List.range_succ,List.flatMap_append];simp[hk,h]
theorem sqK_take{l:List UInt8}{k:Nat}{b:UInt8}(hb:l[k]?=some b)(h:k=0∨l[k]?≠l[k-1]?):sqK l (k+1)=sqK l k++[b]:=by
 unfold sqK;rw[List.range_succ,List.flatMap_append];simp only[List.flatMap_cons,List.flatMap_nil,List.append_nil]
 rw[if_pos h,hb];rfl
theorem sqK_len(l:List UInt8):∀k,(sqK l k).length≤k
 | 0=>by simp[sqK]
 | k+1=>by
   have:=sqK_len l k
   unfold sqK at this ⊢
   rw[List.range_succ,List.flatMap_append,List.length_append];have h2:(if k=0∨l[k]?≠l[k-1]? then l[k]?.toList else []).length≤1:=by
    split
    ·cases l[k]?<;>simp
    ·simp
   simp only[List.flatMap_cons,List.flatMap_nil,List.append_nil]
   exact Nat.add_le_add this h2
abbrev bytC(b:UInt8):List Value:=[.int .u8 (b.toNat:Int)]
theorem bytC_len(b:UInt8):(bytC b).length=1:=rfl
abbrev RdY(w:World)(lo hi:Nat)(A:Option Addr)(l:List UInt8):Prop:=Rd w lo hi 1 bytC A l
theorem Rd.byt{w:World}{lo hi:Nat}{A:Option Addr}{l:List UInt8}(h:RdY w lo hi A l){k:Nat}(hk:k<l.length) :
 ∃b off z,A=some ⟨b,off,none⟩∧lo≤b∧b<hi∧l[k]?=some z∧w.cell? ⟨b,off+k,none⟩=some (.int .u8 (z.toNat:Int)):=by
 obtain⟨b,off,d,e,h1,h2,h3,h4⟩:=Rd.at_ h hk
 have:=h4 0 _ rfl
 rw[Nat.mul_one]at this;exact⟨b,off,d,e,h1,h2,h3,this⟩
theorem Rd.byt0{w:World}{lo hi C:Nat}{l:List UInt8}(h:RdY w lo hi (some ⟨C,0,none⟩) l){k:Nat}(hk:k<l.length) :
 ∃z,l[k]?=some z∧w.cell? ⟨C,k,none⟩=some (.int .u8 (z.toNat:Int)):=by
 obtain⟨b,off,z,e1,-,-,hz,z0⟩:=h.byt hk
 simp only[Option.some.injEq,Addr.mk.injEq]at e1
 obtain⟨rfl,rfl,-⟩:=e1
 rw[Nat.zero_add]at z0;exact⟨z,hz,z0⟩
theorem cells_new2(w:World)(u v:Value)(e:TypeId):∀j x,[u,v][j]?=some x→(w.alloc (.cells #[u,v] e)).cell? (Addr.add ⟨w.heap.size,0,none⟩ j)=some x:=by
 intro j x hx
 match j,hx with
 | 0,hx=>simp at hx;subst hx;simp[Addr.add]
 | 1,hx=>simp at hx;subst hx;simp[Addr.add]
theorem infoByt:(Tryz.prog.info? 5).map (fun i=>(i.zero,i.size,i.bytes))=some (some (.int .u8 0),1,1):=by kernel_rfl
theorem byt_flat(l:List UInt8):l.flatMap bytC=l.map fun b=>Value.int .u8 (b.toNat:Int):=by
 induction l with
 | nil=>rfl
 | cons b l ih=>rw[List.flatMap_cons,ih];rfl
theorem byt_step{w':World}{base:Nat}{T:TypeId}{v':Value}{l l' m:List UInt8}{n:Nat}(ho:w'.ownsRow base T 1 v' n (l.flatMap bytC++m.flatMap bytC))(e:l'=l++m)(hn:n=l'.length):w'.ownsRow base T 1 v' l'.length (l'.flatMap bytC):=by
 subst e;rw[List.flatMap_append,← hn];exact ho
theorem run_strOf{P:Program}{src dst e:TypeId}(hs:P.underlying src=some (.slice e))(he:P.underlying e=some (.int .u8))(hd:P.underlying dst=some .string)(wx:World){lo hi:Nat}{C:Nat}{l:List UInt8}{cap:Nat}(hr:RdY wx lo hi (some ⟨C,0,none⟩) l) :
 (convert src dst (.slice (some ⟨C,0,none⟩) l.length cap)).run P wx=.ok (.string ⟨l.toArray⟩) wx :=
 run_convert_bytes_back wx src dst e _ cap l hs he hd (fun j hj=>by
  obtain⟨b,off,z,e1,-,-,hz,hc⟩:=hr.byt hj
  cases e1;rw[Nat.zero_add]at hc;have:l[j]=z:=by rw[List.getElem?_eq_getElem hj]at hz;exact Option.some.inj hz
  rw[this];rw[show(⟨C,0,none⟩:Addr).add j=⟨C,j,none⟩ by cases j<;>simp[Addr.add]];exact hc)
theorem bytes_at{s:ByteArray}{k:Nat}(h:k<s.size):s.data.toList[k]?=some s[k]:=by
 rw[List.getElem?_eq_getElem (by simpa using h)];rfl
theorem rep_v{b:UInt8}(h:b=118):rep1 b=[117]:=by subst h;rfl
theorem rep_j{b:UInt8}(h:b=106):rep1 b=[105]:=by subst h;rfl
theorem rep_y{b:UInt8}(h:b=121):rep1 b=[105]:=by subst h;rfl
theorem rep_w{b:UInt8}(h:b=119):rep1 b=[117,117]:=by subst h;rfl
theorem rep_o{b:UInt8}(h1:¬ b=118)(h2:¬ b=106)(h3:¬ b=121)(h4:¬ b=119):rep1 b=[b]:=by
 unfold rep1;rw[if_neg h1,if_neg h2,if_neg h3,if_neg h4]
theorem u8_is{a:UInt8}(m:Nat)(hm:m<256):((a.toNat:Int)==(m:Int))=decide (a=UInt8.ofNat m):=by
 have e:(UInt8.ofNat m).toNat=m:=by simp;omega
 by_cases h:a=UInt8.ofNat m
 ·rw[decide_eq_true h,h,e];simp
 ·rw[decide_eq_false h,beq_eq_false_iff_ne];intro e2;apply h;exact UInt8.toNat_inj.1 (by omega)
theorem nrm_a{s:ByteArray}{o:List UInt8}(ho:o=sqK (wideL s.data.toList) (wideL s.data.toList).length)(h:¬ 3≤o.length):nrm s=⟨o.toArray⟩:=by
 unfold nrm nrmL chopL;rw[← ho,if_neg (fun h2=>h h2.1)]
theorem nrm_b{s:ByteArray}{o:List UInt8}{z:UInt8}(ho:o=sqK (wideL s.data.toList) (wideL s.data.toList).length)(hz:o[o.length-1]?=some z)(hne:¬ z=101):nrm s=⟨o.toArray⟩:=by
 unfold nrm nrmL chopL;rw[← ho,if_neg (fun h2=>by rw[hz]at h2;exact hne (Option.some.inj h2.2))]
theorem nrm_c{s:ByteArray}{o:List UInt8}{z:UInt8}(ho:o=sqK (wideL s.data.toList) (wideL s.data.toList).length)(h:3≤o.length)(hz:o[o.length-1]?=some z)(he:z=101):nrm s=⟨(o.take (o.length-1)).toArray⟩:=by
 unfold nrm nrmL chopL;rw[← ho,if_pos ⟨h,by rw[hz,he]⟩]
theorem ret_ba{a b:ByteArray}(h:a=b):Ending.returned (.string a)=.returned (.string b):=by rw[h]
theorem l10Normal_any(s:ByteArray)(w:World)(hs:s.size≤100000) :
 Calls Tryz.prog 216 #[.string s] w fun e w'=>e=.returned (.string (nrm s))∧Up w w':=by
 obtain⟨i0,hi0,hz0,hz1,hz2⟩:=info_parts infoByt
 go_enter Tryz.func216,Tryz.ntmps216
 go_wp2;have hown0:=World.ownsRow_lit (base:=w.heap.size) (e:=5) (size:=1) w #[] 0 (Nat.le_refl _) (by simp[maxLen]) rfl
 have hup0:=(Up.refl w).allocs (.cells #[] 5)
 generalize w.alloc (.cells #[] 5)=w2 at *
 go_loopw [3,4] (fun o i wr=>∃(k C cc:Nat) (L:List UInt8),k≤s.size∧i=.int .i64 k∧L=wideL (s.data.toList.take k)∧o=.slice (some ⟨C,0,none⟩) L.length cc∧wr.ownsRow w.heap.size 5 1 (.slice (some ⟨C,0,none⟩) L.length cc) L.length (L.flatMap bytC)∧Up w wr) (fun _ i _=>s.size-(intOf i).toNat)
 case atStart=>exact⟨0,w.heap.size,0,[],Nat.zero_le _,rfl,rfl,rfl,hown0,hup0⟩
 case round =>
  obtain⟨k,C,cc,L,hk,rfl,hL,rfl,hown,hup⟩:=hrel
  have hll:L.length≤2*k:=by
   rw[hL];have:=wideL_len (s.data.toList.take k);rw[List.length_take]at this;omega
  have HL:=qh hL
  clear hL;by_cases hlt:k<s.size
  ·have hst:=wideL_succ (bytes_at hlt)
   rw[← HL.out]at hst;have HS:=qh hst
   clear hst HL;have q1:=u8_is (a:=s[k]) 118 (by omega)
   have q2:=u8_is (a:=s[k]) 106 (by omega)
   have q3:=u8_is (a:=s[k]) 121 (by omega)
   have q4:=u8_is (a:=s[k]) 119 (by omega)
   by_cases h1:s[k]=118
   ·have e1:((s[k].toNat:Int)==118)=true:=q1.trans (decide_eq_true h1)
    clear q1 q2 q3 q4;have HR:=qh (HS.out.trans (by rw[rep_v h1]))
    have n1:L.length+1≤maxLen:=by unfold maxLen;omega
    have n2:(L.length+1)*1≤140737488355328:=by omega
    have n3:w.heap.size≤(wr.alloc (.cells #[.int .u8 117] 5)).heap.size:=(hup.allocs _).size
    clear HS;go_wp2_with ((at_builtin;refine wpList_append_own _ rfl _ _ 183 rfl w.heap.size 5 i0 _ 1 1 Tryz.underlying183 hi0 hz0 hz1 hz2 rfl (by decide) _ _ _ rfl (hown.alloc _) ⟨wr.heap.size,0,none⟩ 1 1 [.int .u8 117] rfl rfl (cell_one_new _ _ _) (by simp[Value.oneCell']) n1 n2 n3 ?_))
    intro v' w4 hown' hgrow _
    have hln:L.length+1=(wideL (s.data.toList.take (k+1))).length:=by rw[HR.out,List.length_append];rfl
    have ho:=byt_step (m:=[117]) hown' HR.out hln
    have hu:=(hup.allocs (.cells #[.int .u8 117] 5)).grown hgrow (fun k hk=>(hown.lt k hk).1)
    obtain⟨L2,hL2⟩:∃x,x=wideL (s.data.toList.take (k+1)):=⟨_,rfl⟩
    rw[← hL2]at ho hln;obtain⟨C2',cc2,e2,-,-,hC2,-⟩:=own_form ho
    subst e2;obtain⟨C2,rfl,-,-⟩:=hC2 (by omega)
    clear hown' hgrow hC2 hln;have HL2:=qh hL2
    clear hL2 HR;go_wp2;go_roundw
    case rel=>exact⟨k+1,C2,cc2,L2,by omega,by go_num,HL2.out,rfl,ho,hu⟩
    case measure=>simp[intOf];omega
   have e1:((s[k].toNat:Int)==118)=false:=q1.trans (decide_eq_false h1)
   by_cases h2:s[k]=106
   ·have e2:((s[k].toNat:Int)==106)=true:=q2.trans (decide_eq_true h2)
    clear q1 q2 q3 q4;have HR:=qh (HS.out.trans (by rw[rep_j h2]))
    have n1:L.length+1≤maxLen:=by unfold maxLen;omega
    have n2:(L.length+1)*1≤140737488355328:=by omega
    have n3:w.heap.size≤(wr.alloc (.cells #[.int .u8 105] 5)).heap.size:=(hup.allocs _).size
    clear HS;go_wp2_with ((at_builtin;refine wpList_append_own _ rfl _ _ 183 rfl w.heap.size 5 i0 _ 1 1 Tryz.underlying183 hi0 hz0 hz1 hz2 rfl (by decide) _ _ _ rfl (hown.alloc _) ⟨wr.heap.size,0,none⟩ 1 1 [.int .u8 105] rfl rfl (cell_one_new _ _ _) (by simp[Value.oneCell']) n1 n2 n3 ?_))
    intro v' w4 hown' hgrow _
    have hln:L.length+1=(wideL (s.data.toList.take (k+1))).length:=by rw[HR.out,List.length_append];rfl
    have ho:=byt_step (m:=[105]) hown' HR.out hln
    have hu:=(hup.allocs (.cells #[.int .u8 105] 5)).grown hgrow (fun k hk=>(hown.lt k hk).1)
    obtain⟨L2,hL2⟩:∃x,x=wideL (s.data.toList.take (k+1)):=⟨_,rfl⟩
    rw[← hL2]at ho hln;obtain⟨C2',cc2,e2,-,-,hC2,-⟩:=own_form ho
    subst e2;obtain⟨C2,rfl,-,-⟩:=hC2 (by omega)
    clear hown' hgrow hC2 hln;have HL2:=qh hL2
    clear hL2 HR;go_wp2;go_roundw
    case rel=>exact⟨k+1,C2,cc2,L2,by omega,by go_num,HL2.out,rfl,ho,hu⟩
    case measure=>simp[intOf];omega
   have e2:((s[k].toNat:Int)==106)=false:=q2.trans (decide_eq_false h2)
   by_cases h3:s[k]=121
   ·have e3:((s[k].toNat:Int)==121)=true:=q3.trans (decide_eq_true h3)
    clear q1 q2 q3 q4;have HR:=qh (HS.out.trans (by rw[rep_y h3]))
    have n1:L.length+1≤maxLen:=by unfold maxLen;omega
    have n2:(L.length+1)*1≤140737488355328:=by omega
    have n3:w.heap.size≤(wr.alloc (.cells #[.int .u8 105] 5)).heap.size:=(hup.allocs _).size
    clear HS;go_wp2_with ((at_builtin;refine wpList_append_own _ rfl _ _ 183 rfl w.heap.size 5 i0 _ 1 1 Tryz.underlying183 hi0 hz0 hz1 hz2 rfl (by decide) _ _ _ rfl (hown.alloc _) ⟨wr.heap.size,0,none⟩ 1 1 [.int .u8 105] rfl rfl (cell_one_new _ _ _) (by simp[Value.oneCell']) n1 n2 n3 ?_))
    intro v' w4 hown' hgrow _
    have hln:L.length+1=(wideL (s.data.toList.take (k+1))).length:=by rw[HR.out,List.length_append];rfl
    have ho:=byt_step (m:=[105]) hown' HR.out hln
    have hu:=(hup.allocs (.cells #[.int .u8 105] 5)).grown hgrow (fun k hk=>(hown.lt k hk).1)
    obtain⟨L2,hL2⟩:∃x,x=wideL (s.data.toList.take (k+1)):=⟨_,rfl⟩
    rw[← hL2]at ho hln;obtain⟨C2',cc2,e2,-,-,hC2,-⟩:=own_form ho
    subst e2;obtain⟨C2,rfl,-,-⟩:=hC2 (by omega)
    clear hown' hgrow hC2 hln;have HL2:=qh hL2
    clear hL2 HR;go_wp2;go_roundw
    case rel=>exact⟨k+1,C2,cc2,L2,by omega,by go_num,HL2.out,rfl,ho,hu⟩
    case measure=>simp[intOf];omega
   have e3:((s[k].toNat:Int)==121)=false:=q3.trans (decide_eq_false h3)
   by_cases h4:s[k]=119
   ·have e4:((s[k].toNat:Int)==119)=true:=q4.trans (decide_eq_true h4)
    clear q1 q2 q3 q4;have HR:=qh (HS.out.trans (by rw[rep_w h4]))
    have n1:L.length+2≤maxLen:=by unfold maxLen;omega
    have n2:(L.length+2)*1≤140737488355328:=by omega
    have n3:w.heap.size≤(wr.alloc (.cells #[.int .u8 117,.int .u8 117] 5)).heap.size:=(hup.allocs _).size
    clear HS;go_wp2_with ((at_builtin;refine wpList_append_own _ rfl _ _ 183 rfl w.heap.size 5 i0 _ 1 1 Tryz.underlying183 hi0 hz0 hz1 hz2 rfl (by decide) _ _ _ rfl (hown.alloc _) ⟨wr.heap.size,0,none⟩ 2 2 [.int .u8 117,.int .u8 117] rfl rfl (cells_new2 _ _ _ _) (by simp[Value.oneCell']) n1 n2 n3 ?_))
    intro v' w4 hown' hgrow _
    have hln:L.length+2=(wideL (s.data.toList.take (k+1))).length:=by rw[HR.out,List.length_append];rfl
    have ho:=byt_step (m:=[117,117]) hown' HR.out hln
    have hu:=(hup.allocs (.cells #[.int .u8 117,.int .u8 117] 5)).grown hgrow (fun k hk=>(hown.lt k hk).1)
    obtain⟨L2,hL2⟩:∃x,x=wideL (s.data.toList.take (k+1)):=⟨_,rfl⟩
    rw[← hL2]at ho hln;obtain⟨C2',cc2,e2,-,-,hC2,-⟩:=own_form ho
    subst e2;obtain⟨C2,rfl,-,-⟩:=hC2 (by omega)
    clear hown' hgrow hC2 hln;have HL2:=qh hL2
    clear hL2 HR;go_wp2;go_roundw
    case rel=>exact⟨k+1,C2,cc2,L2,by omega,by go_num,HL2.out,rfl,ho,hu⟩
    case measure=>simp[intOf];omega
   have e4:((s[k].toNat:Int)==119)=false:=q4.trans (decide_eq_false h4)
   clear q1 q2 q3 q4;have HR:=qh (HS.out.trans (by rw[rep_o h1 h2 h3 h4]))
   have n1:L.length+1≤maxLen:=by unfold maxLen;omega
   have n2:(L.length+1)*1≤140737488355328:=by omega
   have n3:w.heap.size≤(wr.alloc (.cells #[.int .u8 (s[k].toNat:Int)] 5)).heap.size:=(hup.allocs _).size
   clear HS;go_wp2_with ((at_builtin;refine wpList_append_own _ rfl _ _ 183 rfl w.heap.size 5 i0 _ 1 1 Tryz.underlying183 hi0 hz0 hz1 hz2 rfl (by decide) _ _ _ rfl (hown.alloc _) ⟨wr.heap.size,0,none⟩ 1 1 [.int .u8 (s[k].toNat:Int)] rfl rfl (cell_one_new _ _ _) (by simp[Value.oneCell']) n1 n2 n3 ?_))
   intro v' w4 hown' hgrow _
   have hln:L.length+1=(wideL (s.data.toList.take (k+1))).length:=by rw[HR.out,List.length_append];rfl
   have ho:=byt_step (m:=[s[k]]) hown' HR.out hln
   have hu:=(hup.allocs (.cells #[.int .u8 (s[k].toNat:Int)] 5)).grown hgrow (fun k hk=>(hown.lt k hk).1)
   obtain⟨L2,hL2⟩:∃x,x=wideL (s.data.toList.take (k+1)):=⟨_,rfl⟩
   rw[← hL2]at ho hln;obtain⟨C2',cc2,e2,-,-,hC2,-⟩:=own_form ho
   subst e2;obtain⟨C2,rfl,-,-⟩:=hC2 (by omega)
   clear hown' hgrow hC2 hln;have HL2:=qh hL2
   clear hL2 HR;go_wp2;go_roundw
   case rel=>exact⟨k+1,C2,cc2,L2,by omega,by go_num,HL2.out,rfl,ho,hu⟩
   case measure=>simp[intOf];omega
  ·have hW:=HL.out
   rw[List.take_of_length_le (by simp;omega)]at hW
   have HW:=qh hW
   clear hW HL;have hrY:=Rd.own bytC_len hown
   clear hown;obtain⟨wo,rfl⟩:∃x,x=wr:=⟨_,rfl⟩
   go_wp2;have hown0:=World.ownsRow_lit (base:=wo.heap.size) (e:=5) (size:=1) wo #[] 0 (Nat.le_refl _) (by simp[maxLen]) rfl
   have hup1:=(Up.refl wo).allocs (.cells #[] 5)
   generalize wo.alloc (.cells #[] 5)=w3 at *
   go_loopw [5,6] (fun o i wr=>∃(j C2 cc2:Nat) (O:List UInt8),j≤L.length∧i=.int .i64 j∧O=sqK L j∧o=.slice (some ⟨C2,0,none⟩) O.length cc2∧wr.ownsRow wo.heap.size 5 1 (.slice (some ⟨C2,0,none⟩) O.length cc2) O.length (O.flatMap bytC)∧Up wo wr) (fun _ i _=>L.length-(intOf i).toNat)
   case atStart=>exact⟨0,wo.heap.size,0,[],Nat.zero_le _,rfl,rfl,rfl,hown0,hup1⟩
   case round =>
    obtain⟨j,C2,cc2,O,hj,rfl,hO,rfl,hown,hupr⟩:=hrel
    have hol:O.length≤j:=by rw[hO];exact sqK_len _ _
    have HO:=qh hO
    clear hO;have hrr:=hrY.up hupr (Nat.le_refl _)
    by_cases hlt2:j<L.length
    ·obtain⟨z,hz,z0⟩:=hrr.byt0 hlt2
     have HZ:=qh hz
     clear hz;by_cases hj0:j=0
     ·have hb0:((j:Int)==0)=true:=by subst hj0;rfl
      have HJ:=qh (show j=0∨L[j]?≠L[j-1]? from .inl hj0)
      clear hj0;have Z0:=cell_regrown z0
      go_wp2_with fail
      refine wp_region_quiet_below (by kernel_rfl) (by kernel_rfl) ?_
      repeat (first|go_big_quiet_step (fail)|quiet_step (fail))
      refine wpQuiet_nil ?_
      intro w5 hw5
      obtain⟨⟨dq,osq⟩,hw5⟩:=hw5
      have hup5:Up wr w5:=by rw[hw5];exact below_regrown _ _ _
      clear hw5 Z0;have HR:=qh (sqK_take HZ.out HJ.out)
      rw[← HO.out]at HR;have hown3:=own_up hown hup5
      have hupz:=hupr.trans hup5
      have z1:=hup5.cell z0
      have n1:O.length+1≤maxLen:=by unfold maxLen;omega
      have n2:(O.length+1)*1≤140737488355328:=by omega
      have n3:wo.heap.size≤(w5.alloc (.cells #[.int .u8 (z.toNat:Int)] 5)).heap.size:=(hupz.allocs _).size
      go_wp2_with ((at_builtin;refine wpList_append_own _ rfl _ _ 183 rfl wo.heap.size 5 i0 _ 1 1 Tryz.underlying183 hi0 hz0 hz1 hz2 rfl (by decide) _ _ _ rfl (hown3.alloc _) ⟨w5.heap.size,0,none⟩ 1 1 [.int .u8 (z.toNat:Int)] rfl rfl (cell_one_new _ _ _) (by simp[Value.oneCell']) n1 n2 n3 ?_))
      intro v' w6 hown' hgrow _
      have hln:O.length+1=(sqK L (j+1)).length:=by rw[HR.out,List.length_append];rfl
      have ho:=byt_step (m:=[z]) hown' HR.out hln
      have hu:=(hupz.allocs (.cells #[.int .u8 (z.toNat:Int)] 5)).grown hgrow (fun k hk=>(hown3.lt k hk).1)
      obtain⟨O2,hO2⟩:∃x,x=sqK L (j+1):=⟨_,rfl⟩
      rw[← hO2]at ho hln;obtain⟨C3',cc3,e2,-,-,hC3,-⟩:=own_form ho
      subst e2;obtain⟨C3,rfl,-,-⟩:=hC3 (by omega)
      clear hown' hgrow hC3 hln;have HO2:=qh hO2
      clear hO2 HR;go_wp2;go_roundw
      case rel=>exact⟨j+1,C3,cc3,O2,by omega,by go_num,HO2.out,rfl,ho,hu⟩
      case measure=>simp[intOf];omega
     ·have hb0:((j:Int)==0)=false:=by rw[beq_eq_false_iff_ne];omega
      obtain⟨q,hq⟩:∃q,q+1=j:=⟨j-1,by omega⟩
      have hqL:q<L.length:=by omega
      obtain⟨y,hy,y0⟩:=hrr.byt0 hqL
      have hwr:IntKind.i64.wrap ((j:Int)-1)=(q:Int):=by rw[IntWalk.i64_in _ (by omega)];omega
      have hj1:j-1=q:=by omega
      rw[← hj1]at hy;have hj2:j≠0:=hj0
      have HJ2:=qh hj2
      have HY:=qh hy
      clear hq hj1 hj2;clear hy hj0;have Z0:=cell_regrown z0
      have Y0:=cell_regrown y0
      by_cases hzy:z=y
      ·have hne:((z.toNat:Int) != (y.toNat:Int))=false:=by subst hzy;simp
       have HJ:=qh (show L[j]?=L[j-1]? by rw[HZ.out,HY.out,hzy])
       clear hzy;go_wp2_with fail
       refine wp_region_quiet_below (by kernel_rfl) (by kernel_rfl) ?_
       repeat (first|go_big_quiet_step (fail)|quiet_step (fail))
       refine wpQuiet_nil ?_
       intro w5 hw5
       obtain⟨⟨dq,osq⟩,hw5⟩:=hw5
       have hup5:Up wr w5:=by rw[hw5];exact below_regrown _ _ _
       clear hw5 Z0 Y0 hwr;go_wp2;go_roundw
       case rel=>exact⟨j+1,C2,cc2,O,by omega,by go_num,by rw[sqK_skip HJ2.out HJ.out];exact HO.out,rfl,own_up hown hup5,hupr.trans hup5⟩
       case measure=>simp[intOf];omega
      ·have hne:((z.toNat:Int) != (y.toNat:Int))=true:=by simp;exact fun e=>hzy (UInt8.toNat_inj.1 (by omega))
       have HJ:=qh (show j=0∨L[j]?≠L[j-1]? from .inr (by rw[HZ.out,HY.out];exact fun e=>hzy (Option.some.inj e)))
       clear hzy;go_wp2_with fail
       refine wp_region_quiet_below (by kernel_rfl) (by kernel_rfl) ?_
       repeat (first|go_big_quiet_step (fail)|quiet_step (fail))
       refine wpQuiet_nil ?_
       intro w5 hw5
       obtain⟨⟨dq,osq⟩,hw5⟩:=hw5
       have hup5:Up wr w5:=by rw[hw5];exact below_regrown _ _ _
       clear hw5 Z0 Y0 y0 hwr;have HR:=qh (sqK_take HZ.out HJ.out)
       rw[← HO.out]at HR;have hown3:=own_up hown hup5
       have hupz:=hupr.trans hup5
       have z1:=hup5.cell z0
       have n1:O.length+1≤maxLen:=by unfold maxLen;omega
       have n2:(O.length+1)*1≤140737488355328:=by omega
       have n3:wo.heap.size≤(w5.alloc (.cells #[.int .u8 (z.toNat:Int)] 5)).heap.size:=(hupz.allocs _).size
       go_wp2_with ((at_builtin;refine wpList_append_own _ rfl _ _ 183 rfl wo.heap.size 5 i0 _ 1 1 Tryz.underlying183 hi0 hz0 hz1 hz2 rfl (by decide) _ _ _ rfl (hown3.alloc _) ⟨w5.heap.size,0,none⟩ 1 1 [.int .u8 (z.toNat:Int)] rfl rfl (cell_one_new _ _ _) (by simp[Value.oneCell']) n1 n2 n3 ?_))
       intro v' w6 hown' hgrow _
       have hln:O.length+1=(sqK L (j+1)).length:=by rw[HR.out,List.length_append];rfl
       have ho:=byt_step (m:=[z]) hown' HR.out hln
       have hu:=(hupz.allocs (.cells #[.int .u8 (z.toNat:Int)] 5)).grown hgrow (fun k hk=>(hown3.lt k hk).1)
       obtain⟨O2,hO2⟩:∃x,x=sqK L (j+1):=⟨_,rfl⟩
       rw[← hO2]at ho hln;obtain⟨C3',cc3,e2,-,-,hC3,-⟩:=own_form ho
       subst e2;obtain⟨C3,rfl,-,-⟩:=hC3 (by omega)
       clear hown' hgrow hC3 hln;have HO2:=qh hO2
       clear hO2 HR;go_wp2;go_roundw
       case rel=>exact⟨j+1,C3,cc3,O2,by omega,by go_num,HO2.out,rfl,ho,hu⟩
       case measure=>simp[intOf];omega
    ·have HE:=qh (show O=sqK (wideL s.data.toList) (wideL s.data.toList).length by rw[HO.out,← HW.out,show j=L.length by omega])
     clear HO;have hro:=Rd.own bytC_len hown
     have hcv:=fun(l:List UInt8) (cap:Nat) (hr:RdY wr wo.heap.size wr.heap.size (some ⟨C2,0,none⟩) l)=>run_strOf (P:=Tryz.prog) Tryz.underlying183 Tryz.underlying5 Tryz.underlying9 wr (cap:=cap) hr
     have hb:((j:Int)<(L.length:Int))=False:=by rw[eq_iff_iff];exact⟨fun h=>by omega,False.elim⟩
     by_cases h3:3≤O.length
     ·have hd3:decide ((3:Int)≤(O.length:Int))=true:=by simp;omega
      obtain⟨m,hm⟩:∃m,m+1=O.length:=⟨O.length-1,by omega⟩
      have hm1:O.length-1=m:=by omega
      obtain⟨z,hz,z0⟩:=hro.byt0 (show m<O.length by omega)
      rw[← hm1]at hz;have hq:=u8_is (a:=z) 101 (by omega)
      have hwr:IntKind.i64.wrap ((O.length:Int)-1)=(m:Int):=by rw[IntWalk.i64_in _ (by omega)];omega
      have hml:m<O.length:=by omega
      have hcap:O.length≤cc2:=by
       obtain⟨A1,c1,e1,h1,-⟩:=own_form hown
       cases e1;exact h1
      have hmc:m≤cc2:=by omega
      have hcc:¬ cc2=0:=by omega
      by_cases hz1:z=101
      ·have hzb:((z.toNat:Int)==101)=true:=hq.trans (decide_eq_true hz1)
       have HN:=qh (nrm_c HE.out h3 hz hz1)
       have hlt3:(O.take m).length=m:=by rw[List.length_take];omega
       have hcv1:=hcv (O.take m) cc2 (hro.take _)
       rw[hlt3]at hcv1;have HM:=qh hm1
       clear hm hm1 hcv hz hq hz1 hlt3 hb;go_wp2;go_ret;exact⟨ret_ba (by rw[HN.out,HM.out]),hup.trans hupr⟩
      ·have hzb:((z.toNat:Int)==101)=false:=hq.trans (decide_eq_false hz1)
       have HN:=qh (nrm_b HE.out hz hz1)
       have hcv1:=hcv O cc2 hro
       clear hm hm1 hcv hz hq hz1 hb;go_wp2;go_ret;exact⟨ret_ba HN.out.symm,hup.trans hupr⟩
     ·have hd3:decide ((3:Int)≤(O.length:Int))=false:=by simp;omega
      have HN:=qh (nrm_a HE.out h3)
      have hcv1:=hcv O cc2 hro
      clear hcv hb;go_wp2;go_ret;exact⟨ret_ba HN.out.symm,hup.trans hupr⟩
end Go.Proofs.YtaoplcclemckjaaGreatDoor
