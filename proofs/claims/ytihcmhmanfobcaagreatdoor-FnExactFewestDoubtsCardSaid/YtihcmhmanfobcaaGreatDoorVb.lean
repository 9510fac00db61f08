/- Words, phrases and days of the reference. -/
import Derived.Test.YtihcmhmanfobcaaGreatDoorVa
import Derived.Test.YtihcmhmanfobcaaGreatDoorLib
set_option maxHeartbeats 4000000
set_option maxRecDepth 100000
namespace Go.Proofs.YtihcmhmanfobcaaGreatDoor
open Go.RowKit Go.Sort
def phB(ws:List ByteArray):Bool:=ws.all (fun s=>nameB s 20) && decide (ws.length≤60)
theorem phB_no{ws:List ByteArray}{k:Nat}{s:ByteArray}(hs:ws[k]?=some s)(h:nameB s 20=false):phB ws=false:=by
 have:ws.all (fun s=>nameB s 20)=false:=by
  rw[List.all_eq_false];exact⟨s,List.mem_of_getElem? hs,by simp[h]⟩
 simp[phB,this]
theorem phB_end{ws:List ByteArray}(h:∀s∈ws,nameB s 20=true):phB ws=decide (ws.length≤60):=by
 have:ws.all (fun s=>nameB s 20)=true:=List.all_eq_true.2 h
 simp[phB,this]
theorem take_all{ws:List ByteArray}{k:Nat}{s:ByteArray}(h:∀x∈ws.take k,nameB x 20=true)(hs:ws[k]?=some s)(hb:nameB s 20=true):∀x∈ws.take (k+1),nameB x 20=true:=by
 intro x hx
 rw[List.take_succ_eq_append_getElem (List.getElem?_eq_some_iff.1 hs).1,(List.getElem?_eq_some_iff.1 hs).2]at hx;rcases List.mem_append.1 hx with h1|h1
 ·exact h x h1
 ·simp at h1;subst h1;exact hb
theorem specIsWord_any(s:ByteArray)(w:World)(hs:s.size≤maxLen) :
 Calls Tryz.prog 145 #[.string s] w fun e w'=>e=.returned (.bool (nameB s 20))∧w=w':=by
 go_enter Tryz.func145,Tryz.ntmps145
 go_wp2_with (go_at_call 182;refine(l01Name_any _ _ _ hs).mono ?_;rintro e w' ⟨rfl,rfl⟩)
 go_ret;exact⟨rfl,rfl⟩
theorem l10Phrase_any(A:Option Addr)(ws:List ByteArray)(c lo hi:Nat)(w:World)(hr:RdT w lo hi A ws)(hok:∀s∈ws,s.size≤maxLen)(hn:ws.length≤2000000) :
 Calls Tryz.prog 95 #[.slice A ws.length c] w fun e w'=>e=.returned (.bool (phB ws))∧w=w':=by
 go_enter Tryz.func95,Tryz.ntmps95
 go_wp2;go_loopw [3] (fun i wr=>∃k:Nat,k≤ws.length∧i=.int .i64 k∧(∀x∈ws.take k,nameB x 20=true)∧w=wr) (fun i _=>ws.length-(intOf i).toNat)
 case atStart=>exact⟨0,Nat.zero_le _,rfl,by simp,rfl⟩
 case round =>
  obtain⟨k,hk,rfl,ht,rfl⟩:=hrel
  have HT:=qh ht
  clear ht;by_cases hlt:k<ws.length
  ·obtain⟨b,off,s,rfl,hlo,hb,hd,q0⟩:=hr.txt hlt
   have HD:=qh hd
   have hs:=hok s (List.mem_of_getElem? hd)
   clear hd;rcases hw:nameB s 20 with _|_
   ·have HW:=qh hw
    have HC:=qh (specIsWord_any s w hs)
    rw[hw]at HC;clear hw;go_wp2_with (go_at_call 145;refine HC.out.mono ?_;rintro e w' ⟨rfl,rfl⟩)
    go_ret;exact⟨ret_bool (phB_no HD.out HW.out).symm,rfl⟩
   ·have HW:=qh hw
    have HC:=qh (specIsWord_any s w hs)
    rw[hw]at HC;clear hw;go_wp2_with (go_at_call 145;refine HC.out.mono ?_;rintro e w' ⟨rfl,rfl⟩)
    go_roundw
    case rel=>exact⟨k+1,by omega,by go_num,take_all HT.out HD.out HW.out,by first|rfl|trivial⟩
    case measure=>simp[intOf];omega
  ·go_wp2
   go_ret;have hkl:k=ws.length:=by omega
   refine⟨ret_bool ?_,rfl⟩
   rw[phB_end (by have:=HT.out;rw[hkl,List.take_of_length_le (Nat.le_refl _)]at this;exact this)]
   rw[decide_eq_decide];omega
def AnsT(w:World)(f:FuncId)(caps:Array Value)(p:ByteArray→Bool)(l:List ByteArray):Prop :=
 ∀d∈l,∀w1,Up w w1→Calls Tryz.prog f (#[.string d]++caps) w1 fun e w2=>e=.returned (.bool (p d))∧Up w1 w2
def EntersT(f:FuncId):Prop:=∀(args:Array Value) (w:World),(callFunc f args).run Tryz.prog w=.ok (.enter f args) w
def idxFT(l:List ByteArray)(p:ByteArray→Bool):Int:=match l.findIdx? p with|some i=>(i:Int)|none=>-1
theorem idxFT_yes{l:List ByteArray}{p:ByteArray→Bool}{k:Nat}{d:ByteArray}(hd:l[k]?=some d)(h:p d=true)(hb:∀j x,j<k→l[j]?=some x→p x=false):idxFT l p=k:=by
 have hk:=(List.getElem?_eq_some_iff.1 hd).1
 have:l.findIdx? p=some k:=by
  rw[List.findIdx?_eq_some_iff_getElem];refine⟨hk,by rw[(List.getElem?_eq_some_iff.1 hd).2];exact h,fun j hj=>?_⟩
  have:=hb j _ hj (List.getElem?_eq_getElem (by omega))
  simp[this]
 simp[idxFT,this]
theorem idxFT_no{l:List ByteArray}{p:ByteArray→Bool}(hb:∀j x,j<l.length→l[j]?=some x→p x=false):idxFT l p=-1:=by
 have:l.findIdx? p=none:=by
  rw[List.findIdx?_eq_none_iff];intro x hx
  obtain⟨j,hj,e⟩:=List.getElem_of_mem hx
  exact hb j x hj (by rw[List.getElem?_eq_getElem hj,e])
 simp[idxFT,this]
theorem idxFT_any(l:List ByteArray)(p:ByteArray→Bool):decide (0≤idxFT l p)=l.any p:=by
 unfold idxFT
 rcases h:l.findIdx? p with _|i
 ·rw[List.findIdx?_eq_none_iff]at h
  have:l.any p=false:=by rw[List.any_eq_false];intro x hx;simpa using h x hx
  rw[this];rfl
 ·have h2:=List.findIdx?_eq_some_iff_getElem.1 h
  obtain⟨hk,hp,_⟩:=h2
  have:l.any p=true:=by rw[List.any_eq_true];exact⟨_,List.getElem_mem hk,hp⟩
  rw[this];simp
theorem indexFuncT_any(A:Option Addr)(l:List ByteArray)(c lo hi:Nat)(f:FuncId)(caps:Array Value)(p:ByteArray→Bool)(w:World)(hr:RdT w lo hi A l)(hhi:hi≤w.heap.size)(hn:l.length≤2000000)(he:EntersT f)(hf:AnsT w f caps p l) :
 Calls Tryz.prog 246 #[.slice A l.length c,.func (.func f) #[] caps] w fun e w'=>e=.returned (.int .i64 (idxFT l p))∧Up w w':=by
 have hent:∀(args:Array Value) (w:World),(callFunc f args).run Tryz.prog w=.ok (.enter f args) w:=he
 go_enter Tryz.func246,Tryz.ntmps246
 go_wp2;go_loopw [4,5,8] (fun u4 u5 i wr=>∃k:Nat,k≤l.length∧i=.int .i64 k∧(∀j x,j<k→l[j]?=some x→p x=false)∧Up w wr) (fun _ _ i _=>l.length-(intOf i).toNat)
 case atStart=>exact⟨0,Nat.zero_le _,rfl,fun j x h=>absurd h (by omega),Up.refl _⟩
 case round =>
  obtain⟨k,hk,rfl,ha,hup⟩:=hrel
  have HA:=qh ha
  clear ha;by_cases hlt:k<l.length
  ·obtain⟨b,off,d,rfl,-,-,hd,q0⟩:=(hr.up hup hhi).txt hlt
   have HD:=qh hd
   clear hd;have HF:=qh (hf d (List.mem_of_getElem? HD.out) wr hup)
   go_wp2_with fail
   refine HF.out.mono ?_
   rintro e w2 ⟨rfl,hup2⟩
   by_cases hp:p d=true
   ·have HP:=qh hp
    go_wp2;go_ret;exact⟨ret_int (idxFT_yes HD.out HP.out (fun j x hj hx=>HA.out j x hj hx)).symm,hup.trans hup2⟩
   ·have hp':p d=false:=by simpa using hp
    have HP:=qh hp'
    clear hp;go_wp2;go_roundw
    case rel=>exact⟨k+1,by omega,by go_num,fun j x hj hx=>by
     rcases Nat.lt_or_ge j k with h|h
     ·exact HA.out j x h hx
     ·obtain rfl:j=k:=by omega
      rw[HD.out]at hx;cases hx;exact HP.out,hup.trans hup2⟩
    case measure=>simp[intOf];omega
  ·go_wp2
   go_ret;exact⟨ret_int (idxFT_no (fun j x hj hx=>HA.out j x (by omega) hx)).symm,hup⟩
theorem containsFuncT_any(A:Option Addr)(l:List ByteArray)(c lo hi:Nat)(f:FuncId)(caps:Array Value)(p:ByteArray→Bool)(w:World)(hr:RdT w lo hi A l)(hhi:hi≤w.heap.size)(hn:l.length≤2000000)(he:EntersT f)(hf:AnsT w f caps p l) :
 Calls Tryz.prog 204 #[.slice A l.length c,.func (.func f) #[] caps] w fun e w'=>e=.returned (.bool (l.any p))∧Up w w':=by
 have H:=qh (indexFuncT_any A l c lo hi f caps p w hr hhi hn he hf)
 go_enter Tryz.func204,Tryz.ntmps204
 go_wp2_with (go_at_call 246;refine H.out.mono ?_;rintro e w' ⟨rfl,hup⟩)
 go_ret;exact⟨ret_bool (idxFT_any l p),hup⟩
theorem implIsWord_any(s:ByteArray)(w:World)(hs:s.size≤maxLen) :
 Calls Tryz.prog 206 #[.string s] w fun e w'=>e=.returned (.bool (nameB s 20))∧Up w w':=by
 go_enter Tryz.func206,Tryz.ntmps206
 go_wp2_with (go_at_call 196;refine(isSmall_any _ _ _ hs).mono ?_;rintro e w' ⟨rfl,hup⟩)
 go_ret;exact⟨rfl,hup⟩
theorem areWordsClosure_any(s:ByteArray)(w:World)(hs:s.size≤maxLen) :
 Calls Tryz.prog 205 #[.string s] w fun e w'=>e=.returned (.bool (!nameB s 20))∧Up w w':=by
 go_enter Tryz.func205,Tryz.ntmps205
 go_wp2_with (go_at_call 206;refine(implIsWord_any _ _ hs).mono ?_;rintro e w' ⟨rfl,hup⟩)
 go_ret;exact⟨rfl,hup⟩
theorem areWords_any(A:Option Addr)(ws:List ByteArray)(c lo hi:Nat)(w:World)(hr:RdT w lo hi A ws)(hhi:hi≤w.heap.size)(hok:∀s∈ws,s.size≤maxLen)(hn:ws.length≤2000000) :
 Calls Tryz.prog 161 #[.slice A ws.length c] w fun e w'=>e=.returned (.bool (!(ws.any fun s=>!nameB s 20)))∧Up w w':=by
 go_enter Tryz.func161,Tryz.ntmps161
 go_wp2_with (go_at_call 204;refine(containsFuncT_any A ws c lo hi 205 #[] (fun s=>!nameB s 20) _ hr hhi hn (fun _ _=>by kernel_rfl) (fun d hd w1 _=>areWordsClosure_any d w1 (hok d hd))).mono ?_;rintro e w' ⟨rfl,hup⟩)
 go_ret;exact⟨rfl,hup⟩
theorem phB_alt(ws:List ByteArray):phB ws=(decide (ws.length≤60) && !(ws.any fun s=>!nameB s 20)):=by
 unfold phB
 rw[Bool.and_comm];congr 1
 rw[List.not_any_eq_all_not];simp
theorem isPhrase_any(A:Option Addr)(ws:List ByteArray)(c lo hi:Nat)(w:World)(hr:RdT w lo hi A ws)(hhi:hi≤w.heap.size)(hok:∀s∈ws,s.size≤maxLen)(hn:ws.length≤2000000) :
 Calls Tryz.prog 114 #[.slice A ws.length c] w fun e w'=>e=.returned (.bool (phB ws))∧Up w w':=by
 have HP:=qh (phB_alt ws)
 by_cases h60:ws.length≤60
 ·have hb:decide ((ws.length:Int)≤60)=true:=by simp;omega
  go_enter Tryz.func114,Tryz.ntmps114
  go_wp2_with (go_at_call 161;refine(areWords_any A ws c lo hi _ hr hhi hok hn).mono ?_;rintro e w' ⟨rfl,hup⟩)
  go_ret;exact⟨ret_bool (by rw[HP.out,decide_eq_true h60];rfl),hup⟩
 ·have hb:decide ((ws.length:Int)≤60)=false:=by simp;omega
  go_enter Tryz.func114,Tryz.ntmps114
  go_wp2;go_ret;exact⟨ret_bool (by rw[HP.out,decide_eq_false h60];rfl),Up.refl _⟩
def spanB(a b:Int):Bool:=dayB a && (dayB b && decide (a≤b))
theorem l02Span_any(a b:Int)(w:World) :
 Calls Tryz.prog 228 #[.agg #[.int .i64 a,.int .i64 b]] w fun e w'=>e=.returned (.bool (spanB a b))∧Up w w':=by
 obtain⟨b1,hb1⟩:∃x,x=dayB a:=⟨_,rfl⟩
 obtain⟨b2,hb2⟩:∃x,x=dayB b:=⟨_,rfl⟩
 have c1:=fun wx=>l01Day_any a wx
 have c2:=fun wx=>l01Day_any b wx
 simp only[← hb1]at c1
 simp only[← hb2]at c2
 have HE:=qh (show spanB a b=(b1 && (b2 && decide (a≤b))) by unfold spanB;rw[hb1,hb2])
 clear hb1 hb2;cases b1<;>cases b2<;>go_enter Tryz.func228,Tryz.ntmps228
 all_goals (go_wp2_with (go_at_call 224;first|((with_reducible refine(c2 _).mono ?_);rintro e w' ⟨rfl,rfl⟩)|((with_reducible refine(c1 _).mono ?_);rintro e w' ⟨rfl,rfl⟩)))
 all_goals go_ret
 all_goals exact⟨ret_bool (by rw[HE.out];first|rfl|simp),Up.alloc _ _⟩
theorem l13Span_any(a b:Int)(w:World) :
 Calls Tryz.prog 185 #[.int .i64 a,.int .i64 b] w fun e w'=>e=.returned (.bool (spanB a b))∧Up w w':=by
 go_enter Tryz.func185,Tryz.ntmps185
 go_wp2_with (go_at_call 228;refine(l02Span_any _ _ _).mono ?_;rintro e w' ⟨rfl,hup⟩)
 go_ret;exact⟨rfl,hup⟩
def fmB(p:List ByteArray × Int × Int):Bool:=decide (1≤p.1.length) && (phB p.1 && spanB p.2.1 p.2.2)
theorem l24Formula_any(x:Fm)(lo hi:Nat)(w:World)(hr:RdT w lo hi x.A x.ws)(hhi:hi≤w.heap.size)(hok:∀s∈x.ws,s.size≤maxLen)(hn:x.ws.length≤2000000) :
 Calls Tryz.prog 144 #[x.val] w fun e w'=>e=.returned (.bool (fmB x.p))∧Up w w':=by
 obtain⟨b1,hb1⟩:∃b,b=phB x.ws:=⟨_,rfl⟩
 obtain⟨b2,hb2⟩:∃b,b=spanB x.fr x.to_:=⟨_,rfl⟩
 have hub:=Up.alloc w (.cells #[.slice x.A x.ws.length x.c,.int .i64 x.fr,.int .i64 x.to_] 130)
 have C1:=l10Phrase_any x.A x.ws x.c lo hi _ (hr.up hub hhi) hok hn
 have C2:=fun wx=>l13Span_any x.fr x.to_ wx
 rw[← hb1]at C1;simp only[← hb2]at C2
 have c1:=qh C1
 have c2:=qh C2
 have HE:=qh (show fmB x.p=(decide (1≤x.ws.length) && (b1 && b2)) by rw[hb1,hb2];rfl)
 clear hb1 hb2 C1 C2 hok;by_cases h1:1≤x.ws.length
 ·have hd:decide ((1:Int)≤(x.ws.length:Int))=true:=by simp;omega
  cases b1<;>cases b2<;>go_enter Tryz.func144,Tryz.ntmps144
  all_goals (go_wp2_with first|(go_at_call 95;refine c1.out.mono ?_;rintro e w' ⟨rfl,rfl⟩)|(go_at_call 185;refine(c2.out _).mono ?_;rintro e w' ⟨rfl,hup⟩))
  all_goals go_ret
  all_goals exact⟨ret_bool (by rw[HE.out,decide_eq_true h1];rfl),by first|exact hub.trans (by assumption)|exact hub⟩
 ·have hd:decide ((1:Int)≤(x.ws.length:Int))=false:=by simp;omega
  go_enter Tryz.func144,Tryz.ntmps144
  go_wp2;go_ret;exact⟨ret_bool (by rw[HE.out,decide_eq_false h1];rfl),hub⟩
theorem fmB_alt(x:Fm):fmB x.p=(phB x.ws && (decide (0<x.ws.length) && (dayB x.fr && (dayB x.to_ && decide (x.fr≤x.to_))))):=by
 unfold fmB spanB Fm.p
 have:decide (1≤x.ws.length)=decide (0<x.ws.length):=rfl
 simp only[this]
 cases phB x.ws<;>cases decide (0<x.ws.length)<;>rfl
theorem isFormula_any(x:Fm)(lo hi:Nat)(w:World)(hr:RdT w lo hi x.A x.ws)(hhi:hi≤w.heap.size)(hok:∀s∈x.ws,s.size≤maxLen)(hn:x.ws.length≤2000000) :
 Calls Tryz.prog 159 #[x.val] w fun e w'=>e=.returned (.bool (fmB x.p))∧Up w w':=by
 obtain⟨b1,hb1⟩:∃b,b=phB x.ws:=⟨_,rfl⟩
 obtain⟨b2,hb2⟩:∃b,b=dayB x.fr:=⟨_,rfl⟩
 obtain⟨b3,hb3⟩:∃b,b=dayB x.to_:=⟨_,rfl⟩
 have hub:=Up.alloc w (.cells #[.slice x.A x.ws.length x.c,.int .i64 x.fr,.int .i64 x.to_] 130)
 have C1:=isPhrase_any x.A x.ws x.c lo hi _ (hr.up hub hhi) (Nat.le_trans hhi hub.size) hok hn
 have C2:=fun wx=>isDay_any x.fr wx
 have C3:=fun wx=>isDay_any x.to_ wx
 rw[← hb1]at C1;simp only[← hb2]at C2
 simp only[← hb3]at C3
 have c1:=qh C1
 have c2:=qh C2
 have c3:=qh C3
 have HE:=qh (show fmB x.p=(b1 && (decide (0<x.ws.length) && (b2 && (b3 && decide (x.fr≤x.to_))))) by rw[fmB_alt,hb1,hb2,hb3])
 clear hb1 hb2 hb3 C1 C2 C3 hok;obtain⟨b4,hd⟩:∃b,b=decide (0<x.ws.length):=⟨_,rfl⟩
 rw[← hd]at HE;have hd':decide ((0:Int)<(x.ws.length:Int))=b4:=by rw[hd,decide_eq_decide];omega
 clear hd;cases b1<;>cases b2<;>cases b3<;>cases b4<;>go_enter Tryz.func159,Tryz.ntmps159
 all_goals (go_wp2_with first|(go_at_call 114;refine c1.out.mono ?_;rintro e w1 ⟨rfl,hup⟩;have hq0:=hup.cell (a:=⟨w.heap.size,0,none⟩) (v:=.slice x.A x.ws.length x.c) (by go_simp);have hq1:=hup.cell (a:=⟨w.heap.size,1,none⟩) (v:=.int .i64 x.fr) (by go_simp);have hq2:=hup.cell (a:=⟨w.heap.size,2,none⟩) (v:=.int .i64 x.to_) (by go_simp))|(go_at_call 203;(with_reducible refine(c3.out _).mono ?_);rintro e w' ⟨rfl,rfl⟩)|(go_at_call 203;(with_reducible refine(c2.out _).mono ?_);rintro e w' ⟨rfl,rfl⟩))
 all_goals go_ret
 all_goals exact⟨ret_bool (by rw[HE.out];first|rfl|(simp;done)|(simp;assumption)|(simp_all;done)|(simp;omega)),hub.trans (by assumption)⟩
def AnsFm(w:World)(f:FuncId)(caps:Array Value)(p:Fm→Bool)(l:List Fm):Prop :=
 ∀d∈l,∀w1,Up w w1→Calls Tryz.prog f (#[d.val]++caps) w1 fun e w2=>e=.returned (.bool (p d))∧Up w1 w2
def EntersFm(f:FuncId):Prop:=∀(args:Array Value) (w:World),(callFunc f args).run Tryz.prog w=.ok (.enter f args) w
def idxFFm(l:List Fm)(p:Fm→Bool):Int:=match l.findIdx? p with|some i=>(i:Int)|none=>-1
theorem idxFFm_yes{l:List Fm}{p:Fm→Bool}{k:Nat}{d:Fm}(hd:l[k]?=some d)(h:p d=true)(hb:∀j x,j<k→l[j]?=some x→p x=false):idxFFm l p=k:=by
 have hk:=(List.getElem?_eq_some_iff.1 hd).1
 have:l.findIdx? p=some k:=by
  rw[List.findIdx?_eq_some_iff_getElem];refine⟨hk,by rw[(List.getElem?_eq_some_iff.1 hd).2];exact h,fun j hj=>?_⟩
  have:=hb j _ hj (List.getElem?_eq_getElem (by omega))
  simp[this]
 simp[idxFFm,this]
theorem idxFFm_no{l:List Fm}{p:Fm→Bool}(hb:∀j x,j<l.length→l[j]?=some x→p x=false):idxFFm l p=-1:=by
 have:l.findIdx? p=none:=by
  rw[List.findIdx?_eq_none_iff];intro x hx
  obtain⟨j,hj,e⟩:=List.getElem_of_mem hx
  exact hb j x hj (by rw[List.getElem?_eq_getElem hj,e])
 simp[idxFFm,this]
theorem idxFFm_any(l:List Fm)(p:Fm→Bool):decide (0≤idxFFm l p)=l.any p:=by
 unfold idxFFm
 rcases h:l.findIdx? p with _|i
 ·rw[List.findIdx?_eq_none_iff]at h
  have:l.any p=false:=by rw[List.any_eq_false];intro x hx;simpa using h x hx
  rw[this];rfl
 ·have h2:=List.findIdx?_eq_some_iff_getElem.1 h
  obtain⟨hk,hp,_⟩:=h2
  have:l.any p=true:=by rw[List.any_eq_true];exact⟨_,List.getElem_mem hk,hp⟩
  rw[this];simp
theorem indexFuncFm_any(A:Option Addr)(l:List Fm)(c lo hi:Nat)(f:FuncId)(caps:Array Value)(p:Fm→Bool)(w:World)(hr:RdF w lo hi A l)(hhi:hi≤w.heap.size)(hn:l.length≤2000000)(he:EntersFm f)(hf:AnsFm w f caps p l) :
 Calls Tryz.prog 202 #[.slice A l.length c,.func (.func f) #[] caps] w fun e w'=>e=.returned (.int .i64 (idxFFm l p))∧Up w w':=by
 have hent:∀(args:Array Value) (w:World),(callFunc f args).run Tryz.prog w=.ok (.enter f args) w:=he
 go_enter Tryz.func202,Tryz.ntmps202
 go_wp2;go_loopw [4,5,8] (fun u4 u5 i wr=>∃k:Nat,k≤l.length∧i=.int .i64 k∧(∀j x,j<k→l[j]?=some x→p x=false)∧Up w wr) (fun _ _ i _=>l.length-(intOf i).toNat)
 case atStart=>exact⟨0,Nat.zero_le _,rfl,fun j x h=>absurd h (by omega),Up.refl _⟩
 case round =>
  obtain⟨k,hk,rfl,ha,hup⟩:=hrel
  have HA:=qh ha
  clear ha;by_cases hlt:k<l.length
  ·obtain⟨b,off,d,rfl,-,-,hd,hin,q0,q1,q2⟩:=(hr.up hup hhi).at_ hlt
   have HD:=qh hd
   clear hd;have HF:=qh (hf d (List.mem_of_getElem? HD.out) wr hup)
   go_wp2_with fail
   refine HF.out.mono ?_
   rintro e w2 ⟨rfl,hup2⟩
   by_cases hp:p d=true
   ·have HP:=qh hp
    go_wp2;go_ret;exact⟨ret_int (idxFFm_yes HD.out HP.out (fun j x hj hx=>HA.out j x hj hx)).symm,hup.trans hup2⟩
   ·have hp':p d=false:=by simpa using hp
    have HP:=qh hp'
    clear hp;go_wp2;go_roundw
    case rel=>exact⟨k+1,by omega,by go_num,fun j x hj hx=>by
     rcases Nat.lt_or_ge j k with h|h
     ·exact HA.out j x h hx
     ·obtain rfl:j=k:=by omega
      rw[HD.out]at hx;cases hx;exact HP.out,hup.trans hup2⟩
    case measure=>simp[intOf];omega
  ·go_wp2
   go_ret;exact⟨ret_int (idxFFm_no (fun j x hj hx=>HA.out j x (by omega) hx)).symm,hup⟩
theorem containsFuncFm_any(A:Option Addr)(l:List Fm)(c lo hi:Nat)(f:FuncId)(caps:Array Value)(p:Fm→Bool)(w:World)(hr:RdF w lo hi A l)(hhi:hi≤w.heap.size)(hn:l.length≤2000000)(he:EntersFm f)(hf:AnsFm w f caps p l) :
 Calls Tryz.prog 157 #[.slice A l.length c,.func (.func f) #[] caps] w fun e w'=>e=.returned (.bool (l.any p))∧Up w w':=by
 have H:=qh (indexFuncFm_any A l c lo hi f caps p w hr hhi hn he hf)
 go_enter Tryz.func157,Tryz.ntmps157
 go_wp2_with (go_at_call 202;refine H.out.mono ?_;rintro e w' ⟨rfl,hup⟩)
 go_ret;exact⟨ret_bool (idxFFm_any l p),hup⟩
def afB(l:List Fm):Bool:=decide (l.length≤20) && !(l.any fun x=>!fmB x.p)
theorem areFClosure_any(x:Fm)(lo hi:Nat)(w:World)(hr:RdT w lo hi x.A x.ws)(hhi:hi≤w.heap.size)(hok:∀s∈x.ws,s.size≤maxLen)(hn:x.ws.length≤2000000) :
 Calls Tryz.prog 158 #[x.val] w fun e w'=>e=.returned (.bool (!fmB x.p))∧Up w w':=by
 have hub:=Up.alloc w (.cells #[.slice x.A x.ws.length x.c,.int .i64 x.fr,.int .i64 x.to_] 130)
 have hc:=qh (isFormula_any x lo hi _ (hr.up hub hhi) (Nat.le_trans hhi hub.size) hok hn)
 go_enter Tryz.func158,Tryz.ntmps158
 go_wp2_with (go_at_call 159;refine hc.out.mono ?_;rintro e w' ⟨rfl,hup⟩)
 go_ret;exact⟨rfl,hub.trans hup⟩
theorem implAreFormulas_any(A:Option Addr)(l:List Fm)(c lo hi:Nat)(w:World)(hr:RdF w lo hi A l)(hhi:hi≤w.heap.size)(hok:∀x∈l,x.ok)(hws:∀x∈l,x.ws.length≤2000000)(hn:l.length≤2000000) :
 Calls Tryz.prog 111 #[.slice A l.length c] w fun e w'=>e=.returned (.bool (afB l))∧Up w w':=by
 have hc:=qh (containsFuncFm_any A l c lo hi 158 #[] (fun x=>!fmB x.p) w hr hhi hn (fun _ _=>by kernel_rfl) (fun d hd w1 hu=>areFClosure_any d lo hi w1 ((hr.2 d hd).up hu hhi) (Nat.le_trans hhi hu.size) (hok d hd).1 (hws d hd)))
 by_cases h:l.length≤20
 ·have hb:decide ((l.length:Int)≤20)=true:=by simp;omega
  go_enter Tryz.func111,Tryz.ntmps111
  go_wp2_with (go_at_call 157;refine hc.out.mono ?_;rintro e w' ⟨rfl,hup⟩)
  go_ret;exact⟨ret_bool (by unfold afB;rw[decide_eq_true h];rfl),hup⟩
 ·have hb:decide ((l.length:Int)≤20)=false:=by simp;omega
  go_enter Tryz.func111,Tryz.ntmps111
  go_wp2;go_ret;exact⟨ret_bool (by unfold afB;rw[decide_eq_false h];rfl),Up.refl _⟩
theorem afB_no{l:List Fm}{k:Nat}{d:Fm}(hd:l[k]?=some d)(h:fmB d.p=false):afB l=false:=by
 have:(l.any fun x=>!fmB x.p)=true:=List.any_eq_true.2 ⟨d,List.mem_of_getElem? hd,by simp[h]⟩
 simp[afB,this]
theorem afB_end{l:List Fm}(h:∀x∈l,fmB x.p=true):afB l=decide (l.length≤20):=by
 have:(l.any fun x=>!fmB x.p)=false:=by rw[List.any_eq_false];intro x hx;simp[h x hx]
 simp[afB,this]
theorem take_allF{l:List Fm}{k:Nat}{s:Fm}(h:∀x∈l.take k,fmB x.p=true)(hs:l[k]?=some s)(hb:fmB s.p=true):∀x∈l.take (k+1),fmB x.p=true:=by
 intro x hx
 rw[List.take_succ_eq_append_getElem (List.getElem?_eq_some_iff.1 hs).1,(List.getElem?_eq_some_iff.1 hs).2]at hx;rcases List.mem_append.1 hx with h1|h1
 ·exact h x h1
 ·simp at h1;subst h1;exact hb
theorem specAreFormulas_any(A:Option Addr)(l:List Fm)(c lo hi:Nat)(w:World)(hr:RdF w lo hi A l)(hhi:hi≤w.heap.size)(hok:∀x∈l,x.ok)(hws:∀x∈l,x.ws.length≤2000000)(hn:l.length≤2000000) :
 Calls Tryz.prog 94 #[.slice A l.length c] w fun e w'=>e=.returned (.bool (afB l))∧Up w w':=by
 go_enter Tryz.func94,Tryz.ntmps94
 go_wp2;go_loopw [3] (fun i wr=>∃k:Nat,k≤l.length∧i=.int .i64 k∧(∀x∈l.take k,fmB x.p=true)∧Up w wr) (fun i _=>l.length-(intOf i).toNat)
 case atStart=>exact⟨0,Nat.zero_le _,rfl,by simp,Up.refl _⟩
 case round =>
  obtain⟨k,hk,rfl,ht,hup⟩:=hrel
  have HT:=qh ht
  clear ht;by_cases hlt:k<l.length
  ·obtain⟨b,off,d,rfl,hlo,hb,hd,hin,q0,q1,q2⟩:=(hr.up hup hhi).at_ hlt
   have HD:=qh hd
   have hc:=l24Formula_any d lo hi wr hin (Nat.le_trans hhi hup.size) (hok d (List.mem_of_getElem? hd)).1 (hws d (List.mem_of_getElem? hd))
   clear hd hin;rcases hw:fmB d.p with _|_
   all_goals (rw[hw]at hc;have HC:=qh hc;have HW:=qh hw;clear hc hw)
   ·go_wp2_with (go_at_call 144;refine HC.out.mono ?_;rintro e w' ⟨rfl,hup'⟩)
    go_ret;exact⟨ret_bool (afB_no HD.out HW.out).symm,hup.trans hup'⟩
   ·go_wp2_with (go_at_call 144;refine HC.out.mono ?_;rintro e w' ⟨rfl,hup'⟩)
    go_roundw
    case rel=>exact⟨k+1,by omega,by go_num,take_allF HT.out HD.out HW.out,hup.trans hup'⟩
    case measure=>simp[intOf];omega
  ·go_wp2
   go_ret;have hkl:k=l.length:=by omega
   refine⟨ret_bool ?_,hup⟩
   rw[afB_end (by have:=HT.out;rw[hkl,List.take_of_length_le (Nat.le_refl _)]at this;exact this)]
   rw[decide_eq_decide];omega
end Go.Proofs.YtihcmhmanfobcaaGreatDoor
