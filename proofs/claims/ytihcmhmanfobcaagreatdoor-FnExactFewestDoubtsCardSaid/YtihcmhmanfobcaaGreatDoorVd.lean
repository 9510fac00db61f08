/- What it is to be a chancery, people, a land with an itinerary, marks, a dating, deeds: plain tests on plain data. -/
import Derived.Test.YtihcmhmanfobcaaGreatDoorVa
import Derived.Test.YtihcmhmanfobcaaGreatDoorVb
import Derived.Test.YtihcmhmanfobcaaGreatDoorVc
set_option maxHeartbeats 8000000
set_option maxRecDepth 100000
namespace Go.Proofs.YtihcmhmanfobcaaGreatDoor
open Go.RowKit Go.Sort
def allK{α:Type}(l:List α)(q:Nat→α→Bool):Bool:=(List.range l.length).all fun k=>match l[k]? with|some d=>q k d|none=>true
theorem allK_no{α:Type}{l:List α}{q:Nat→α→Bool}{k:Nat}{d:α}(hd:l[k]?=some d)(h:q k d=false):allK l q=false:=by
 unfold allK
 rw[List.all_eq_false];exact⟨k,by simpa using (List.getElem?_eq_some_iff.1 hd).1,by simp[hd,h]⟩
theorem allK_end{α:Type}{l:List α}{q:Nat→α→Bool}(h:∀k d,k<l.length→l[k]?=some d→q k d=true):allK l q=true:=by
 unfold allK
 rw[List.all_eq_true];intro k hk
 have hk':k<l.length:=by simpa using hk
 rw[List.getElem?_eq_getElem hk'];exact h k _ hk' (List.getElem?_eq_getElem hk')
theorem allK_yes{α:Type}{l:List α}{q:Nat→α→Bool}(h:allK l q=true){k:Nat}{d:α}(hd:l[k]?=some d):q k d=true:=by
 unfold allK at h
 have:=List.all_eq_true.1 h k (by simpa using (List.getElem?_eq_some_iff.1 hd).1)
 rwa [hd]at this
theorem allK_step{α:Type}{l:List α}{q:Nat→α→Bool}{k:Nat}{d:α}(h:∀j x,j<k→l[j]?=some x→q j x=true)(hd:l[k]?=some d)(hq:q k d=true):∀j x,j<k+1→l[j]?=some x→q j x=true:=fun j x hj hx=>by
 rcases Nat.lt_or_ge j k with h1|h1
 ·exact h j x h1 hx
 ·obtain rfl:j=k:=by omega
  rw[hd]at hx;cases hx;exact hq
def pv{α:Type}(l:List α)(k:Nat)(q:α→Bool):Bool:=match k with|0=>true|j+1=>(match l[j]? with|some x=>q x|none=>true)
theorem pv_s{α:Type}{l:List α}{j:Nat}{q:α→Bool}{x:α}(h:l[j]?=some x):pv l (j+1) q=q x:=by simp[pv,h]
def ixB{α:Type}(l:List α)(p:α→Bool):Int:=match l.findIdx? p with|some i=>(i:Int)|none=>-1
theorem ixB_yes{α:Type}{l:List α}{p:α→Bool}{k:Nat}{d:α}(hd:l[k]?=some d)(h:p d=true)(hb:∀j x,j<k→l[j]?=some x→p x=false):ixB l p=k:=by
 have hk:=(List.getElem?_eq_some_iff.1 hd).1
 have:l.findIdx? p=some k:=by
  rw[List.findIdx?_eq_some_iff_getElem];refine⟨hk,by rw[(List.getElem?_eq_some_iff.1 hd).2];exact h,fun j hj=>?_⟩
  have:=hb j _ hj (List.getElem?_eq_getElem (by omega))
  simp[this]
 simp[ixB,this]
theorem ixB_no{α:Type}{l:List α}{p:α→Bool}(hb:∀j x,j<l.length→l[j]?=some x→p x=false):ixB l p=-1:=by
 have:l.findIdx? p=none:=by
  rw[List.findIdx?_eq_none_iff];intro x hx
  obtain⟨j,hj,e⟩:=List.getElem_of_mem hx
  exact hb j x hj (by rw[List.getElem?_eq_getElem hj,e])
 simp[ixB,this]
theorem ixB_or{α:Type}(l:List α)(p:α→Bool):(ixB l p=-1∧∀x∈l,p x=false)∨∃(k:Nat) (d:α),ixB l p=k∧l[k]?=some d∧p d=true∧∀j x,j<k→l[j]?=some x→p x=false:=by
 unfold ixB
 rcases h:l.findIdx? p with _|i
 ·left;rw[List.findIdx?_eq_none_iff]at h;exact⟨rfl,fun x hx=>by simpa using h x hx⟩
 ·right
  obtain⟨hk,hp,hb⟩:=List.findIdx?_eq_some_iff_getElem.1 h
  refine⟨i,_,rfl,List.getElem?_eq_getElem hk,hp,fun j x hj hx=>?_⟩
  have:=hb j hj
  rw[(List.getElem?_eq_some_iff.1 hx).2]at this;simpa using this
theorem ixB_any{α:Type}(l:List α)(p:α→Bool):decide (0≤ixB l p)=l.any p:=by
 rcases ixB_or l p with⟨h,h2⟩|⟨k,d,h,hd,hp,_⟩
 ·have:l.any p=false:=by rw[List.any_eq_false];intro x hx;simp[h2 x hx]
  rw[h,this];rfl
 ·have:l.any p=true:=List.any_eq_true.2 ⟨d,List.mem_of_getElem? hd,hp⟩
  rw[h,this];simp
def lessB(a b:ByteArray):Bool:=Op.bytesLess a.toList b.toList
def rgB(d:Nm):Bool:=nameB d.nm 12 && spanB d.fr d.to_
def arQ(l:List Nm)(k:Nat)(d:Nm):Bool:=rgB d && pv l k fun x=>decide (x.fr≤d.fr)
def arB(l:List Nm):Bool:=allK l (arQ l) && decide (l.length≤30)
def chB(l:List Nm)(fr to_:Int):Bool:=arB l && (dayB fr && (dayB to_ && (decide (fr≤to_) && decide (to_-fr≤20000))))
def pix(l:List Nm)(s:ByteArray):Int:=ixB l fun x=>x.nm.toList==s.toList
def psQ(l:List Nm)(k:Nat)(d:Nm):Bool:=rgB d && pv l k fun x=>lessB x.nm d.nm
def tmB(l:List Nm)(t:Tm):Bool:=nameB t.of_ 12 && (match l.find? (fun x=>x.nm.toList==t.pe.toList) with|some x=>spanB t.fr t.to_ && (decide (x.fr≤t.fr) && decide (t.to_≤x.to_))|none=>false)
def ppB(l:List Nm)(ts:List Tm):Bool:=(decide (l.length≤40) && decide (ts.length≤60)) && (allK l (psQ l) && ts.all (tmB l))
def wyB(n:Nat)(w:I3):Bool:=inB w.a 0 (n-1) && (inB w.b 0 (n-1) && ((w.a != w.b) && inB w.d 1 60))
def plQ(l:List ByteArray)(k:Nat)(s:ByteArray):Bool:=nameB s 12 && !(l.take k).any fun x=>x.toList==s.toList
def ldB(pl:List ByteArray)(ws:List I3):Bool:=(decide (1≤pl.length) && (decide (pl.length≤12) && decide (ws.length≤40))) && (allK pl (plQ pl) && ws.all (wyB pl.length))
def syB(n:Nat)(s:I3):Bool:=inB s.a 0 (n-1) && spanB s.b s.d
def gapB(ws:List I3)(n:Nat)(s x:I3):Bool:=decide (fw ws n x.a.toNat s.a.toNat<1000000) && (decide (x.d<s.b) && decide (x.d+fw ws n x.a.toNat s.a.toNat≤s.b))
def stQ(ws:List I3)(n:Nat)(l:List I3)(k:Nat)(s:I3):Bool:=syB n s && pv l k (gapB ws n s)
def itB(pl:List ByteArray)(ws st:List I3):Bool:=ldB pl ws && (decide (st.length≤40) && allK st (stQ ws pl.length st))
def amQ(l:List Nm)(k:Nat)(d:Nm):Bool:=rgB d && pv l k fun x=>lessB x.nm d.nm ||(x.nm.toList==d.nm.toList && decide (x.fr<d.fr))
def amB(l:List Nm):Bool:=allK l (amQ l) && decide (l.length≤40)
def wdB(x:Pw):Bool:=chB x.rs x.fr x.to_ && (ppB x.ps x.ts && (itB x.pl x.ws x.st && (amB x.se && amB x.ha)))
def mdB(m d:Int):Bool:=inB m 1 12 && inB d 1 (if m=2 then 29 else if m=4∨m=6∨m=9∨m=11 then 30 else 31)
def rlB(f r w:Int):Bool:=inB f 0 19 && (inB r 0 4 && (inB w 0 6 && (decide (3≤r) || decide (w=0))))
def z0(i:Int):Bool:=decide (i=0)
def zs(s:ByteArray):Bool:=decide (s.toList=[])
def clB(c:Cl):Bool :=
 if c.ki=0 then z0 c.fe && (z0 c.re_ && (z0 c.wk && (z0 c.sy && (zs c.kg && mdB c.mo c.nu))))
 else if c.ki=1 then z0 c.nu && (z0 c.mo && (z0 c.sy && (zs c.kg && rlB c.fe c.re_ c.wk)))
 else if c.ki=2 then z0 c.mo && (z0 c.fe && (z0 c.re_ && (z0 c.wk && (z0 c.sy && (inB c.nu 1 99 && nameB c.kg 12)))))
 else if c.ki=3 then z0 c.mo && (z0 c.fe && (z0 c.re_ && (z0 c.wk && (zs c.kg && (inB c.nu 2 1999 && inB c.sy 0 6)))))
 else if c.ki=4 then z0 c.mo && (z0 c.fe && (z0 c.re_ && (z0 c.wk && (zs c.kg && (inB c.nu 1 15 && inB c.sy 0 2)))))
 else if c.ki=5 then z0 c.nu && (z0 c.mo && (z0 c.fe && (z0 c.re_ && (z0 c.sy && (zs c.kg && inB c.wk 0 6)))))
 else false
def dtB(l:List Cl):Bool:=decide (l.length≤8) && l.all clB
def nmIn(l:List Nm)(s:ByteArray):Bool:=l.any fun x=>x.nm.toList==s.toList
def ddIn(l:List Pd)(s:ByteArray):Bool:=l.any fun x=>x.nm.toList==s.toList
def ctQ(l:List Pd)(d:Pd)(k:Nat)(s:ByteArray):Bool:=(!(s.toList==d.nm.toList)) && (ddIn l s && !(d.ci.take k).any fun x=>x.toList==s.toList)
def d0B(w:Pw)(l:List Pd)(d:Pd):Bool :=
 (nameB d.nm 12 && (dtB d.da && ((decide (d.wi.length≤12) && d.wi.all fun x=>nmIn w.ps x.pe) && decide (d.ci.length≤8)))) &&
 (((d.pl.toList==[]) || w.pl.any fun x=>x.toList==d.pl.toList) && (((d.se.toList==[]) || nmIn w.se d.se) && ((d.ha.toList==[]) || nmIn w.ha d.ha))) && allK d.ci (ctQ l d)
def ddQ(w:Pw)(l:List Pd)(k:Nat)(d:Pd):Bool:=d0B w l d && !ddIn (l.take k) d.nm
def dsB(w:Pw)(l:List Pd):Bool:=wdB w && (decide (l.length≤8) && allK l (ddQ w l))
theorem less_irr:∀l:List UInt8,Op.bytesLess l l=false
 | []=>rfl
 | a :: l=>by simp[Op.bytesLess,less_irr l]
theorem less_tri:∀(x y:List UInt8),Op.bytesLess x y=false→Op.bytesLess y x=false→x=y
 | [],[],_,_=>rfl
 | [],_ :: _,h,_=>by simp[Op.bytesLess]at h
 | _ :: _,[],_,h=>by simp[Op.bytesLess]at h
 | a :: x,b :: y,h,k=>by
   simp only[Op.bytesLess,Bool.or_eq_false_iff,decide_eq_false_iff_not,Bool.and_eq_false_iff,beq_eq_false_iff_ne]at h k
   have e:a=b:=UInt8.le_antisymm (UInt8.not_lt.1 k.1) (UInt8.not_lt.1 h.1)
   subst e;have h1:Op.bytesLess x y=false:=by simpa using h.2
   have k1:Op.bytesLess y x=false:=by simpa using k.2
   rw[less_tri x y h1 k1]
theorem less_asym:∀(x y:List UInt8),Op.bytesLess x y=true→Op.bytesLess y x=false
 | [],[],h=>by simp[Op.bytesLess]at h
 | [],_ :: _,_=>rfl
 | _ :: _,[],h=>by simp[Op.bytesLess]at h
 | a :: x,b :: y,h=>by
   simp only[Op.bytesLess,Bool.or_eq_true,decide_eq_true_eq,Bool.and_eq_true,beq_iff_eq]at h
   simp only[Op.bytesLess,Bool.or_eq_false_iff,decide_eq_false_iff_not,Bool.and_eq_false_iff,beq_eq_false_iff_ne]
   rcases h with h|⟨rfl,h⟩
   ·exact⟨UInt8.not_lt.2 (UInt8.le_of_lt h),.inl (fun e=>by subst e;exact UInt8.lt_irrefl _ h)⟩
   ·exact⟨UInt8.lt_irrefl _,.inr (less_asym x y h)⟩
theorem unL_nil{l:List Sp}:unL l=[] ↔ l=[]:=by
 constructor
 ·intro h
  rcases l with _|⟨s,l⟩
  ·rfl
  ·exfalso
   have hne:∀(m o:List Sp),(o≠[]∨m≠[])→m.foldl stpS o≠[]:=by
    intro m
    induction m with
    | nil=>intro o ho;rcases ho with h|h;exact h;exact absurd rfl h
    | cons x m ih =>
      intro o _
      refine ih _ (.inl ?_)
      rcases List.eq_nil_or_concat o with rfl|⟨o,z,rfl⟩
      ·simp[stpS_nil]
      ·rw[List.concat_eq_append,stpS_snoc];split<;>simp
   refine hne (srtS (s :: l)) [] (.inr (fun e=>?_)) h
   have:=srtS_len (s :: l)
   rw[e]at this;simp at this
 ·rintro rfl;rfl
def AnsNm(w:World)(f:FuncId)(caps:Array Value)(p:Nm→Bool)(l:List (Nm)):Prop :=
 ∀d∈l,∀w1,Up w w1→Calls Tryz.prog f (#[d.val]++caps) w1 fun e w2=>e=.returned (.bool (p d))∧Up w1 w2
theorem indexFuncNm_any(A:Option Addr)(l:List (Nm))(c lo hi:Nat)(f:FuncId)(caps:Array Value)(p:Nm→Bool)(w:World)(hr:RdNm w lo hi A l)(hhi:hi≤w.heap.size)(hn:l.length≤2000000)(he:∀(args:Array Value) (w:World),(callFunc f args).run Tryz.prog w=.ok (.enter f args) w)(hf:AnsNm w f caps p l) :
 Calls Tryz.prog 217 #[.slice A l.length c,.func (.func f) #[] caps] w fun e w'=>e=.returned (.int .i64 (ixB l p))∧Up w w':=by
 have hent:∀(args:Array Value) (w:World),(callFunc f args).run Tryz.prog w=.ok (.enter f args) w:=he
 go_enter Tryz.func217,Tryz.ntmps217
 go_wp2;go_loopw [4,5,8] (fun u4 u5 i wr=>∃k:Nat,k≤l.length∧i=.int .i64 k∧(∀j x,j<k→l[j]?=some x→p x=false)∧Up w wr) (fun _ _ i _=>l.length-(intOf i).toNat)
 case atStart=>exact⟨0,Nat.zero_le _,rfl,fun j x h=>absurd h (by omega),Up.refl _⟩
 case round =>
  obtain⟨k,hk,rfl,ha,hup⟩:=hrel
  have HA:=qh ha
  clear ha;by_cases hlt:k<l.length
  ·obtain⟨b,off,d,rfl,-,-,hd,q0,q1,q2⟩:=(hr.up hup hhi).nm hlt
   have HD:=qh hd
   clear hd;have HF:=qh (hf d (List.mem_of_getElem? HD.out) wr hup)
   go_wp2_with fail
   refine HF.out.mono ?_
   rintro e w2 ⟨rfl,hup2⟩
   by_cases hp:p d=true
   ·have HP:=qh hp
    go_wp2;go_ret;exact⟨ret_int (ixB_yes HD.out HP.out (fun j x hj hx=>HA.out j x hj hx)).symm,hup.trans hup2⟩
   ·have hp':p d=false:=by simpa using hp
    have HP:=qh hp'
    clear hp;go_wp2;go_roundw
    case rel=>exact⟨k+1,by omega,by go_num,fun j x hj hx=>by
     rcases Nat.lt_or_ge j k with h|h
     ·exact HA.out j x h hx
     ·obtain rfl:j=k:=by omega
      rw[HD.out]at hx;cases hx;exact HP.out,hup.trans hup2⟩
    case measure=>simp[intOf];omega
  ·go_wp2
   go_ret;exact⟨ret_int (ixB_no (fun j x hj hx=>HA.out j x (by omega) hx)).symm,hup⟩
def AnsI3(w:World)(f:FuncId)(caps:Array Value)(p:I3→Bool)(l:List (I3)):Prop :=
 ∀d∈l,∀w1,Up w w1→Calls Tryz.prog f (#[d.val]++caps) w1 fun e w2=>e=.returned (.bool (p d))∧Up w1 w2
theorem indexFuncI3_any(A:Option Addr)(l:List (I3))(c lo hi:Nat)(f:FuncId)(caps:Array Value)(p:I3→Bool)(w:World)(hr:RdI3 w lo hi A l)(hhi:hi≤w.heap.size)(hn:l.length≤2000000)(he:∀(args:Array Value) (w:World),(callFunc f args).run Tryz.prog w=.ok (.enter f args) w)(hf:AnsI3 w f caps p l) :
 Calls Tryz.prog 306 #[.slice A l.length c,.func (.func f) #[] caps] w fun e w'=>e=.returned (.int .i64 (ixB l p))∧Up w w':=by
 have hent:∀(args:Array Value) (w:World),(callFunc f args).run Tryz.prog w=.ok (.enter f args) w:=he
 go_enter Tryz.func306,Tryz.ntmps306
 go_wp2;go_loopw [4,5,8] (fun u4 u5 i wr=>∃k:Nat,k≤l.length∧i=.int .i64 k∧(∀j x,j<k→l[j]?=some x→p x=false)∧Up w wr) (fun _ _ i _=>l.length-(intOf i).toNat)
 case atStart=>exact⟨0,Nat.zero_le _,rfl,fun j x h=>absurd h (by omega),Up.refl _⟩
 case round =>
  obtain⟨k,hk,rfl,ha,hup⟩:=hrel
  have HA:=qh ha
  clear ha;by_cases hlt:k<l.length
  ·obtain⟨b,off,d,rfl,-,-,hd,q0,q1,q2⟩:=(hr.up hup hhi).i3 hlt
   have HD:=qh hd
   clear hd;have HF:=qh (hf d (List.mem_of_getElem? HD.out) wr hup)
   go_wp2_with fail
   refine HF.out.mono ?_
   rintro e w2 ⟨rfl,hup2⟩
   by_cases hp:p d=true
   ·have HP:=qh hp
    go_wp2;go_ret;exact⟨ret_int (ixB_yes HD.out HP.out (fun j x hj hx=>HA.out j x hj hx)).symm,hup.trans hup2⟩
   ·have hp':p d=false:=by simpa using hp
    have HP:=qh hp'
    clear hp;go_wp2;go_roundw
    case rel=>exact⟨k+1,by omega,by go_num,fun j x hj hx=>by
     rcases Nat.lt_or_ge j k with h|h
     ·exact HA.out j x h hx
     ·obtain rfl:j=k:=by omega
      rw[HD.out]at hx;cases hx;exact HP.out,hup.trans hup2⟩
    case measure=>simp[intOf];omega
  ·go_wp2
   go_ret;exact⟨ret_int (ixB_no (fun j x hj hx=>HA.out j x (by omega) hx)).symm,hup⟩
theorem containsFuncI3_any(A:Option Addr)(l:List (I3))(c lo hi:Nat)(f:FuncId)(caps:Array Value)(p:I3→Bool)(w:World)(hr:RdI3 w lo hi A l)(hhi:hi≤w.heap.size)(hn:l.length≤2000000)(he:∀(args:Array Value) (w:World),(callFunc f args).run Tryz.prog w=.ok (.enter f args) w)(hf:AnsI3 w f caps p l) :
 Calls Tryz.prog 271 #[.slice A l.length c,.func (.func f) #[] caps] w fun e w'=>e=.returned (.bool (l.any p))∧Up w w':=by
 have H:=qh (indexFuncI3_any A l c lo hi f caps p w hr hhi hn he hf)
 go_enter Tryz.func271,Tryz.ntmps271
 go_wp2_with (go_at_call 306;refine H.out.mono ?_;rintro e w' ⟨rfl,hup⟩)
 go_ret;exact⟨ret_bool (ixB_any l p),hup⟩
def AnsCl(w:World)(f:FuncId)(caps:Array Value)(p:Cl→Bool)(l:List (Cl)):Prop :=
 ∀d∈l,∀w1,Up w w1→Calls Tryz.prog f (#[d.val]++caps) w1 fun e w2=>e=.returned (.bool (p d))∧Up w1 w2
theorem indexFuncCl_any(A:Option Addr)(l:List (Cl))(c lo hi:Nat)(f:FuncId)(caps:Array Value)(p:Cl→Bool)(w:World)(hr:RdCl w lo hi A l)(hhi:hi≤w.heap.size)(hn:l.length≤2000000)(he:∀(args:Array Value) (w:World),(callFunc f args).run Tryz.prog w=.ok (.enter f args) w)(hf:AnsCl w f caps p l) :
 Calls Tryz.prog 207 #[.slice A l.length c,.func (.func f) #[] caps] w fun e w'=>e=.returned (.int .i64 (ixB l p))∧Up w w':=by
 have hent:∀(args:Array Value) (w:World),(callFunc f args).run Tryz.prog w=.ok (.enter f args) w:=he
 go_enter Tryz.func207,Tryz.ntmps207
 go_wp2;go_loopw [4,5,8] (fun u4 u5 i wr=>∃k:Nat,k≤l.length∧i=.int .i64 k∧(∀j x,j<k→l[j]?=some x→p x=false)∧Up w wr) (fun _ _ i _=>l.length-(intOf i).toNat)
 case atStart=>exact⟨0,Nat.zero_le _,rfl,fun j x h=>absurd h (by omega),Up.refl _⟩
 case round =>
  obtain⟨k,hk,rfl,ha,hup⟩:=hrel
  have HA:=qh ha
  clear ha;by_cases hlt:k<l.length
  ·obtain⟨b,off,d,rfl,-,-,hd,q0,q1,q2,q3,q4,q5,q6,q7⟩:=(hr.up hup hhi).cl hlt
   have HD:=qh hd
   clear hd;have HF:=qh (hf d (List.mem_of_getElem? HD.out) wr hup)
   go_wp2_with fail
   refine HF.out.mono ?_
   rintro e w2 ⟨rfl,hup2⟩
   by_cases hp:p d=true
   ·have HP:=qh hp
    go_wp2;go_ret;exact⟨ret_int (ixB_yes HD.out HP.out (fun j x hj hx=>HA.out j x hj hx)).symm,hup.trans hup2⟩
   ·have hp':p d=false:=by simpa using hp
    have HP:=qh hp'
    clear hp;go_wp2;go_roundw
    case rel=>exact⟨k+1,by omega,by go_num,fun j x hj hx=>by
     rcases Nat.lt_or_ge j k with h|h
     ·exact HA.out j x h hx
     ·obtain rfl:j=k:=by omega
      rw[HD.out]at hx;cases hx;exact HP.out,hup.trans hup2⟩
    case measure=>simp[intOf];omega
  ·go_wp2
   go_ret;exact⟨ret_int (ixB_no (fun j x hj hx=>HA.out j x (by omega) hx)).symm,hup⟩
theorem containsFuncCl_any(A:Option Addr)(l:List (Cl))(c lo hi:Nat)(f:FuncId)(caps:Array Value)(p:Cl→Bool)(w:World)(hr:RdCl w lo hi A l)(hhi:hi≤w.heap.size)(hn:l.length≤2000000)(he:∀(args:Array Value) (w:World),(callFunc f args).run Tryz.prog w=.ok (.enter f args) w)(hf:AnsCl w f caps p l) :
 Calls Tryz.prog 164 #[.slice A l.length c,.func (.func f) #[] caps] w fun e w'=>e=.returned (.bool (l.any p))∧Up w w':=by
 have H:=qh (indexFuncCl_any A l c lo hi f caps p w hr hhi hn he hf)
 go_enter Tryz.func164,Tryz.ntmps164
 go_wp2_with (go_at_call 207;refine H.out.mono ?_;rintro e w' ⟨rfl,hup⟩)
 go_ret;exact⟨ret_bool (ixB_any l p),hup⟩
def AnsWi(w:World)(f:FuncId)(caps:Array Value)(p:Wi→Bool)(l:List (Wi)):Prop :=
 ∀d∈l,∀w1,Up w w1→Calls Tryz.prog f (#[d.val]++caps) w1 fun e w2=>e=.returned (.bool (p d))∧Up w1 w2
theorem indexFuncWi_any(A:Option Addr)(l:List (Wi))(c lo hi:Nat)(f:FuncId)(caps:Array Value)(p:Wi→Bool)(w:World)(hr:RdWi w lo hi A l)(hhi:hi≤w.heap.size)(hn:l.length≤2000000)(he:∀(args:Array Value) (w:World),(callFunc f args).run Tryz.prog w=.ok (.enter f args) w)(hf:AnsWi w f caps p l) :
 Calls Tryz.prog 245 #[.slice A l.length c,.func (.func f) #[] caps] w fun e w'=>e=.returned (.int .i64 (ixB l p))∧Up w w':=by
 have hent:∀(args:Array Value) (w:World),(callFunc f args).run Tryz.prog w=.ok (.enter f args) w:=he
 go_enter Tryz.func245,Tryz.ntmps245
 go_wp2;go_loopw [4,5,8] (fun u4 u5 i wr=>∃k:Nat,k≤l.length∧i=.int .i64 k∧(∀j x,j<k→l[j]?=some x→p x=false)∧Up w wr) (fun _ _ i _=>l.length-(intOf i).toNat)
 case atStart=>exact⟨0,Nat.zero_le _,rfl,fun j x h=>absurd h (by omega),Up.refl _⟩
 case round =>
  obtain⟨k,hk,rfl,ha,hup⟩:=hrel
  have HA:=qh ha
  clear ha;by_cases hlt:k<l.length
  ·obtain⟨b,off,d,rfl,-,-,hd,q0,q1⟩:=(hr.up hup hhi).wi hlt
   have HD:=qh hd
   clear hd;have HF:=qh (hf d (List.mem_of_getElem? HD.out) wr hup)
   go_wp2_with fail
   refine HF.out.mono ?_
   rintro e w2 ⟨rfl,hup2⟩
   by_cases hp:p d=true
   ·have HP:=qh hp
    go_wp2;go_ret;exact⟨ret_int (ixB_yes HD.out HP.out (fun j x hj hx=>HA.out j x hj hx)).symm,hup.trans hup2⟩
   ·have hp':p d=false:=by simpa using hp
    have HP:=qh hp'
    clear hp;go_wp2;go_roundw
    case rel=>exact⟨k+1,by omega,by go_num,fun j x hj hx=>by
     rcases Nat.lt_or_ge j k with h|h
     ·exact HA.out j x h hx
     ·obtain rfl:j=k:=by omega
      rw[HD.out]at hx;cases hx;exact HP.out,hup.trans hup2⟩
    case measure=>simp[intOf];omega
  ·go_wp2
   go_ret;exact⟨ret_int (ixB_no (fun j x hj hx=>HA.out j x (by omega) hx)).symm,hup⟩
theorem containsFuncWi_any(A:Option Addr)(l:List (Wi))(c lo hi:Nat)(f:FuncId)(caps:Array Value)(p:Wi→Bool)(w:World)(hr:RdWi w lo hi A l)(hhi:hi≤w.heap.size)(hn:l.length≤2000000)(he:∀(args:Array Value) (w:World),(callFunc f args).run Tryz.prog w=.ok (.enter f args) w)(hf:AnsWi w f caps p l) :
 Calls Tryz.prog 199 #[.slice A l.length c,.func (.func f) #[] caps] w fun e w'=>e=.returned (.bool (l.any p))∧Up w w':=by
 have H:=qh (indexFuncWi_any A l c lo hi f caps p w hr hhi hn he hf)
 go_enter Tryz.func199,Tryz.ntmps199
 go_wp2_with (go_at_call 245;refine H.out.mono ?_;rintro e w' ⟨rfl,hup⟩)
 go_ret;exact⟨ret_bool (ixB_any l p),hup⟩
def AnsDd(w:World)(f:FuncId)(caps:Array Value)(p:Dd→Bool)(l:List (Dd)):Prop :=
 ∀d∈l,∀w1,Up w w1→Calls Tryz.prog f (#[d.val]++caps) w1 fun e w2=>e=.returned (.bool (p d))∧Up w1 w2
theorem indexFuncDd_any(A:Option Addr)(l:List (Dd))(c lo hi:Nat)(f:FuncId)(caps:Array Value)(p:Dd→Bool)(w:World)(hr:Rd w lo hi 7 Dd.cells A l)(hhi:hi≤w.heap.size)(hn:l.length≤2000000)(he:∀(args:Array Value) (w:World),(callFunc f args).run Tryz.prog w=.ok (.enter f args) w)(hf:AnsDd w f caps p l) :
 Calls Tryz.prog 241 #[.slice A l.length c,.func (.func f) #[] caps] w fun e w'=>e=.returned (.int .i64 (ixB l p))∧Up w w':=by
 have hent:∀(args:Array Value) (w:World),(callFunc f args).run Tryz.prog w=.ok (.enter f args) w:=he
 go_enter Tryz.func241,Tryz.ntmps241
 go_wp2;go_loopw [4,5,8] (fun u4 u5 i wr=>∃k:Nat,k≤l.length∧i=.int .i64 k∧(∀j x,j<k→l[j]?=some x→p x=false)∧Up w wr) (fun _ _ i _=>l.length-(intOf i).toNat)
 case atStart=>exact⟨0,Nat.zero_le _,rfl,fun j x h=>absurd h (by omega),Up.refl _⟩
 case round =>
  obtain⟨k,hk,rfl,ha,hup⟩:=hrel
  have HA:=qh ha
  clear ha;by_cases hlt:k<l.length
  ·obtain⟨b,off,d,rfl,-,-,hd,q0,q1,q2,q3,q4,q5,q6⟩:=(hr.up hup hhi).dd hlt
   have HD:=qh hd
   clear hd;have HF:=qh (hf d (List.mem_of_getElem? HD.out) wr hup)
   go_wp2_with fail
   refine HF.out.mono ?_
   rintro e w2 ⟨rfl,hup2⟩
   by_cases hp:p d=true
   ·have HP:=qh hp
    go_wp2;go_ret;exact⟨ret_int (ixB_yes HD.out HP.out (fun j x hj hx=>HA.out j x hj hx)).symm,hup.trans hup2⟩
   ·have hp':p d=false:=by simpa using hp
    have HP:=qh hp'
    clear hp;go_wp2;go_roundw
    case rel=>exact⟨k+1,by omega,by go_num,fun j x hj hx=>by
     rcases Nat.lt_or_ge j k with h|h
     ·exact HA.out j x h hx
     ·obtain rfl:j=k:=by omega
      rw[HD.out]at hx;cases hx;exact HP.out,hup.trans hup2⟩
    case measure=>simp[intOf];omega
  ·go_wp2
   go_ret;exact⟨ret_int (ixB_no (fun j x hj hx=>HA.out j x (by omega) hx)).symm,hup⟩
def AnsPh(w:World)(f:FuncId)(caps:Array Value)(p:Sl ByteArray→Bool)(l:List (Sl ByteArray)):Prop :=
 ∀d∈l,∀w1,Up w w1→Calls Tryz.prog f (#[d.val]++caps) w1 fun e w2=>e=.returned (.bool (p d))∧Up w1 w2
theorem indexFuncPh_any(A:Option Addr)(l:List (Sl ByteArray))(c lo hi:Nat)(f:FuncId)(caps:Array Value)(p:Sl ByteArray→Bool)(w:World)(hr:Rd w lo hi 1 phC A l)(hhi:hi≤w.heap.size)(hn:l.length≤2000000)(he:∀(args:Array Value) (w:World),(callFunc f args).run Tryz.prog w=.ok (.enter f args) w)(hf:AnsPh w f caps p l) :
 Calls Tryz.prog 160 #[.slice A l.length c,.func (.func f) #[] caps] w fun e w'=>e=.returned (.int .i64 (ixB l p))∧Up w w':=by
 have hent:∀(args:Array Value) (w:World),(callFunc f args).run Tryz.prog w=.ok (.enter f args) w:=he
 go_enter Tryz.func160,Tryz.ntmps160
 go_wp2;go_loopw [4,5,8] (fun u4 u5 i wr=>∃k:Nat,k≤l.length∧i=.int .i64 k∧(∀j x,j<k→l[j]?=some x→p x=false)∧Up w wr) (fun _ _ i _=>l.length-(intOf i).toNat)
 case atStart=>exact⟨0,Nat.zero_le _,rfl,fun j x h=>absurd h (by omega),Up.refl _⟩
 case round =>
  obtain⟨k,hk,rfl,ha,hup⟩:=hrel
  have HA:=qh ha
  clear ha;by_cases hlt:k<l.length
  ·obtain⟨b,off,d,rfl,-,-,hd,q0⟩:=(hr.up hup hhi).ph hlt
   have HD:=qh hd
   clear hd;have HF:=qh (hf d (List.mem_of_getElem? HD.out) wr hup)
   go_wp2_with fail
   refine HF.out.mono ?_
   rintro e w2 ⟨rfl,hup2⟩
   by_cases hp:p d=true
   ·have HP:=qh hp
    go_wp2;go_ret;exact⟨ret_int (ixB_yes HD.out HP.out (fun j x hj hx=>HA.out j x hj hx)).symm,hup.trans hup2⟩
   ·have hp':p d=false:=by simpa using hp
    have HP:=qh hp'
    clear hp;go_wp2;go_roundw
    case rel=>exact⟨k+1,by omega,by go_num,fun j x hj hx=>by
     rcases Nat.lt_or_ge j k with h|h
     ·exact HA.out j x h hx
     ·obtain rfl:j=k:=by omega
      rw[HD.out]at hx;cases hx;exact HP.out,hup.trans hup2⟩
    case measure=>simp[intOf];omega
  ·go_wp2
   go_ret;exact⟨ret_int (ixB_no (fun j x hj hx=>HA.out j x (by omega) hx)).symm,hup⟩
theorem containsFuncPh_any(A:Option Addr)(l:List (Sl ByteArray))(c lo hi:Nat)(f:FuncId)(caps:Array Value)(p:Sl ByteArray→Bool)(w:World)(hr:Rd w lo hi 1 phC A l)(hhi:hi≤w.heap.size)(hn:l.length≤2000000)(he:∀(args:Array Value) (w:World),(callFunc f args).run Tryz.prog w=.ok (.enter f args) w)(hf:AnsPh w f caps p l) :
 Calls Tryz.prog 112 #[.slice A l.length c,.func (.func f) #[] caps] w fun e w'=>e=.returned (.bool (l.any p))∧Up w w':=by
 have H:=qh (indexFuncPh_any A l c lo hi f caps p w hr hhi hn he hf)
 go_enter Tryz.func112,Tryz.ntmps112
 go_wp2_with (go_at_call 160;refine H.out.mono ?_;rintro e w' ⟨rfl,hup⟩)
 go_ret;exact⟨ret_bool (ixB_any l p),hup⟩
theorem l01NameU(s:ByteArray)(m:Int)(w:World)(hs:s.size≤maxLen):Calls Tryz.prog 182 #[.string s,.int .i64 m] w fun e w'=>e=.returned (.bool (nameB s m))∧Up w w' :=
 (l01Name_any s m w hs).mono fun e w' ⟨h,h2⟩=>⟨h,by rw[← h2];exact Up.refl _⟩
theorem l01InU(n a b:Int)(w:World):Calls Tryz.prog 49 #[.int .i64 n,.int .i64 a,.int .i64 b] w fun e w'=>e=.returned (.bool (inB n a b))∧Up w w' :=
 (l01In_any n a b w).mono fun e w' ⟨h,h2⟩=>⟨h,by rw[← h2];exact Up.refl _⟩
theorem l07Reign_any(d:Nm)(w:World)(hd:d.ok) :
 Calls Tryz.prog 260 #[d.val] w fun e w'=>e=.returned (.bool (rgB d))∧Up w w':=by
 have hd':d.nm.size≤maxLen:=hd
 obtain⟨b1,hb1⟩:∃x,x=nameB d.nm 12:=⟨_,rfl⟩
 obtain⟨b2,hb2⟩:∃x,x=dayB d.fr:=⟨_,rfl⟩
 obtain⟨b3,hb3⟩:∃x,x=dayB d.to_:=⟨_,rfl⟩
 have c1:=fun wx=>l01Name_any d.nm 12 wx hd'
 have c2:=fun wx=>l01Day_any d.fr wx
 have c3:=fun wx=>l01Day_any d.to_ wx
 simp only[← hb1]at c1
 simp only[← hb2]at c2
 simp only[← hb3]at c3
 have HE:=qh (show rgB d=(b1 && (b2 && (b3 && decide (d.fr≤d.to_)))) by unfold rgB spanB;rw[hb1,hb2,hb3])
 clear hb1 hb2 hb3;cases b1<;>cases b2<;>cases b3<;>go_enter Tryz.func260,Tryz.ntmps260
 all_goals (go_wp2_with first|(go_at_call 182;refine(c1 _).mono ?_;rintro e w' ⟨rfl,rfl⟩)|(go_at_call 224;first|((with_reducible refine(c3 _).mono ?_);rintro e w' ⟨rfl,rfl⟩)|((with_reducible refine(c2 _).mono ?_);rintro e w' ⟨rfl,rfl⟩)))
 all_goals go_ret
 all_goals exact⟨ret_bool (by rw[HE.out];first|rfl|simp),Up.alloc _ _⟩
theorem arB_no{l:List Nm}{k:Nat}{d:Nm}(hd:l[k]?=some d)(h:arQ l k d=false):arB l=false:=by simp[arB,allK_no hd h]
theorem arB_end{l:List Nm}(h:∀k d,k<l.length→l[k]?=some d→arQ l k d=true):arB l=decide (l.length≤30):=by simp[arB,allK_end h]
theorem specAreReigns_any(s:Sl Nm)(lo hi:Nat)(w:World)(h:SrNm w lo hi s) :
 Calls Tryz.prog 223 #[.slice s.A s.l.length s.c] w fun e w'=>e=.returned (.bool (arB s.l))∧Up w w':=by
 obtain⟨A,c,l⟩:=s
 have hr:=h.rd
 have hhi:=h.hhi
 have hn:l.length≤2000000:=h.len
 have hok:=qh h.ok
 clear h;show Calls _ _ #[.slice A l.length c] _ fun e w'=>e=.returned (.bool (arB l))∧_
 go_enter Tryz.func223,Tryz.ntmps223
 go_wp2;go_loopw [3] (fun i wr=>∃k:Nat,k≤l.length∧i=.int .i64 k∧(∀j d,j<k→l[j]?=some d→arQ l j d=true)∧Up w wr) (fun i _=>l.length-(intOf i).toNat)
 case atStart=>exact⟨0,Nat.zero_le _,rfl,fun j d h=>absurd h (by omega),Up.refl _⟩
 case round =>
  obtain⟨k,hk,rfl,ha,hup⟩:=hrel
  have HA:=qh ha
  clear ha;by_cases hlt:k<l.length
  ·obtain⟨b,off,d,rfl,-,-,hd,q0,q1,q2⟩:=(hr.up hup hhi).nm hlt
   have HD:=qh hd
   clear hd;have Q0:=cell_regrown q0
   have Q1:=cell_regrown q1
   have Q2:=cell_regrown q2
   have cC:∀dd os,Calls Tryz.prog 260 #[d.val] (grow (redrawn wr dd) os) fun e w''=>e=.returned (.bool (rgB d))∧∃p:Regrown,w''=grow (redrawn wr p.d) p.os :=
    fun dd os=>Calls.regrown_of (l07Reign_any d _ (hok.out d (List.mem_of_getElem? HD.out)))
   rcases hq:rgB d with _|_
   ·rw[hq]at cC
    have HQ:=qh hq
    clear hq;go_wp2_with fail
    refine wp_region_quiet_below (by kernel_rfl) (by kernel_rfl) ?_
    repeat (first|go_big_quiet_step ((go_at_call 260;exact cC _ _))|quiet_step ((go_at_call 260;exact cC _ _)))
    refine wpQuiet_nil ?_
    intro w2 hw2
    obtain⟨⟨dq,osq⟩,hw2⟩:=hw2
    have hup2:Up wr w2:=by rw[hw2];exact below_regrown _ _ _
    clear hw2 Q0 Q1 Q2 cC;go_wp2;go_ret;exact⟨ret_bool (arB_no HD.out (by unfold arQ;rw[HQ.out];rfl)).symm,hup.trans hup2⟩
   ·rw[hq]at cC
    have HQ:=qh hq
    clear hq;rcases Nat.eq_zero_or_pos k with hk0|hk0
    ·have hgt:¬ 0<k:=by omega
     have HK0:=qh hk0
     clear hk0;go_wp2_with fail
     refine wp_region_quiet_below (by kernel_rfl) (by kernel_rfl) ?_
     repeat (first|go_big_quiet_step ((go_at_call 260;exact cC _ _))|quiet_step ((go_at_call 260;exact cC _ _)))
     refine wpQuiet_nil ?_
     intro w2 hw2
     obtain⟨⟨dq,osq⟩,hw2⟩:=hw2
     have hup2:Up wr w2:=by rw[hw2];exact below_regrown _ _ _
     clear hw2 Q0 Q1 Q2 cC;go_wp2;go_roundw
     case rel=>exact⟨k+1,by omega,by go_num,allK_step HA.out HD.out (by unfold arQ;rw[HQ.out,HK0.out];rfl),hup.trans hup2⟩
     case measure=>simp[intOf];omega
    ·obtain⟨q,hkq⟩:∃q,k=q+1:=⟨k-1,by omega⟩
     have hql:q<l.length:=by omega
     have hwr:IntKind.i64.wrap ((k:Int)-1)=(q:Int):=by rw[IntWalk.i64_in _ (by omega)];omega
     obtain⟨b',off',d',hbo,-,-,hd',p0,p1,p2⟩:=(hr.up hup hhi).nm hql
     cases hbo;have HD':=qh hd'
     have HKQ:=qh hkq
     clear hd' hkq;have P1:=cell_regrown p1
     go_wp2_with fail
     refine wp_region_quiet_below (by kernel_rfl) (by kernel_rfl) ?_
     repeat (first|go_big_quiet_step ((go_at_call 260;exact cC _ _))|quiet_step ((go_at_call 260;exact cC _ _)))
     refine wpQuiet_nil ?_
     intro w2 hw2
     obtain⟨⟨dq,osq⟩,hw2⟩:=hw2
     have hup2:Up wr w2:=by rw[hw2];exact below_regrown _ _ _
     clear hw2 Q0 Q1 Q2 P1 cC;go_wp2
     ·have h1:d.fr<d'.fr:=by assumption
      go_ret;exact⟨ret_bool (arB_no HD.out (by unfold arQ;rw[HQ.out,HKQ.out,pv_s HD'.out];simp;omega)).symm,hup.trans hup2⟩
     ·have h1:¬ d.fr<d'.fr:=by omega
      go_roundw
      case rel=>exact⟨k+1,by omega,by go_num,allK_step HA.out HD.out (by unfold arQ;rw[HQ.out,HKQ.out,pv_s HD'.out];simp;omega),hup.trans hup2⟩
      case measure=>simp[intOf];omega
  ·have HE:=qh (arB_end (l:=l) (fun j d hj hd=>HA.out j d (by omega) hd))
   go_wp2;go_ret;exact⟨ret_bool (by rw[HE.out];exact decide_eq_decide.2 (by omega)),hup⟩
theorem specIsChancery_any(s:Sl Nm)(fr to_:Int)(lo hi:Nat)(w:World)(h:SrNm w lo hi s) :
 Calls Tryz.prog 178 #[.agg #[.slice s.A s.l.length s.c,.int .i64 fr,.int .i64 to_]] w fun e w'=>e=.returned (.bool (chB s.l fr to_))∧Up w w':=by
 obtain⟨b1,hb1⟩:∃x,x=arB s.l:=⟨_,rfl⟩
 obtain⟨b2,hb2⟩:∃x,x=dayB fr:=⟨_,rfl⟩
 obtain⟨b3,hb3⟩:∃x,x=dayB to_:=⟨_,rfl⟩
 have u:=Up.alloc w (.cells #[.slice s.A s.l.length s.c,.int .i64 fr,.int .i64 to_] 48)
 have hB:=Bx.new w #[.slice s.A s.l.length s.c,.int .i64 fr,.int .i64 to_] 48
 have c1:=qh (specAreReigns_any s lo hi _ (h.up u))
 have c2:=fun wx=>l01Day_any fr wx
 have c3:=fun wx=>l01Day_any to_ wx
 rw[← hb1]at c1;simp only[← hb2]at c2
 simp only[← hb3]at c3
 have HE:=qh (show chB s.l fr to_=(b1 && (b2 && (b3 && inB to_ fr (fr+20000)))) by
  unfold chB;rw[hb1,hb2,hb3];congr 3;unfold inB;congr 1;rw[decide_eq_decide];omega)
 have HB2:=qh hb2
 clear hb1 hb2 hb3;have hrange:b2=true→0≤fr∧fr≤730499:=fun e=>by have:=HB2.out;rw[e]at this;exact inB_iff.1 this.symm
 cases b1<;>cases b2<;>cases b3<;>go_enter Tryz.func178,Tryz.ntmps178
 all_goals (first|(have hrange:=hrange rfl;clear HB2)|clear hrange HB2)
 all_goals (go_wp2_with first|(go_at_call 223;refine c1.out.mono ?_;rintro e w1 ⟨rfl,hup⟩;obtain⟨x0,x1,x2⟩:=(hB.up hup).c3)|(go_at_call 224;first|((with_reducible refine(c3 _).mono ?_);rintro e w' ⟨rfl,rfl⟩)|((with_reducible refine(c2 _).mono ?_);rintro e w' ⟨rfl,rfl⟩))|(go_at_call 49;refine(l01In_any _ _ _ _).mono ?_;rintro e w' ⟨rfl,rfl⟩))
 all_goals go_ret
 all_goals exact⟨ret_bool (by rw[HE.out];first|rfl|simp),u.trans (by assumption)⟩
def amP(d x:Nm):Bool:=lessB x.nm d.nm ||(x.nm.toList==d.nm.toList && decide (x.fr<d.fr))
theorem am_a{d x:Nm}(h:Op.bytesLess d.nm.toList x.nm.toList=true):amP d x=false:=by
 unfold amP lessB
 rw[less_asym _ _ h];have:(x.nm.toList==d.nm.toList)=false:=by
  rw[beq_eq_false_iff_ne];intro e;rw[e,less_irr]at h;cases h
 rw[this];rfl
theorem am_b{d x:Nm}(h:(d.nm.toList==x.nm.toList)=true):amP d x=decide (x.fr<d.fr):=by
 have e:d.nm.toList=x.nm.toList:=by simpa using h
 unfold amP lessB
 rw[e,less_irr];simp
theorem am_c{d x:Nm}(h:Op.bytesLess d.nm.toList x.nm.toList=false)(h2:(d.nm.toList==x.nm.toList)=false):amP d x=true:=by
 unfold amP lessB
 rcases h3:Op.bytesLess x.nm.toList d.nm.toList with _|_
 ·exfalso
  rw[less_tri _ _ h h3]at h2;simp at h2
 ·rfl
theorem amQ_eq(l:List Nm)(k:Nat)(d:Nm):amQ l k d=(rgB d && pv l k (amP d)):=rfl
theorem amB_no{l:List Nm}{k:Nat}{d:Nm}(hd:l[k]?=some d)(h:amQ l k d=false):amB l=false:=by simp[amB,allK_no hd h]
theorem amB_end{l:List Nm}(h:∀k d,k<l.length→l[k]?=some d→amQ l k d=true):amB l=decide (l.length≤40):=by simp[amB,allK_end h]
theorem specAreMarks_any(s:Sl Nm)(lo hi:Nat)(w:World)(h:SrNm w lo hi s) :
 Calls Tryz.prog 181 #[.slice s.A s.l.length s.c] w fun e w'=>e=.returned (.bool (amB s.l))∧Up w w':=by
 obtain⟨A,c,l⟩:=s
 have hr:=h.rd
 have hhi:=h.hhi
 have hn:l.length≤2000000:=h.len
 have hok:=qh h.ok
 clear h;show Calls _ _ #[.slice A l.length c] _ fun e w'=>e=.returned (.bool (amB l))∧_
 go_enter Tryz.func181,Tryz.ntmps181
 go_wp2;go_loopw [3,4] (fun i u4 wr=>∃k:Nat,k≤l.length∧i=.int .i64 k∧(∀j d,j<k→l[j]?=some d→amQ l j d=true)∧Up w wr) (fun i _ _=>l.length-(intOf i).toNat)
 case atStart=>exact⟨0,Nat.zero_le _,rfl,fun j d h=>absurd h (by omega),Up.refl _⟩
 case round =>
  obtain⟨k,hk,rfl,ha,hup⟩:=hrel
  have HA:=qh ha
  clear ha;by_cases hlt:k<l.length
  ·obtain⟨b,off,d,rfl,-,-,hd,q0,q1,q2⟩:=(hr.up hup hhi).nm hlt
   have HD:=qh hd
   clear hd;have u1:=hup.allocs (.cells #[.string d.nm,.int .i64 d.fr,.int .i64 d.to_] 174)
   have hB:=Bx.new wr #[.string d.nm,.int .i64 d.fr,.int .i64 d.to_] 174
   obtain⟨b1,hb1⟩:∃x,x=nameB d.nm 12:=⟨_,rfl⟩
   obtain⟨b2,hb2⟩:∃x,x=spanB d.fr d.to_:=⟨_,rfl⟩
   have c1:=fun wx=>l01Name_any d.nm 12 wx (hok.out d (List.mem_of_getElem? HD.out))
   have c2:=fun wx=>l13Span_any d.fr d.to_ wx
   simp only[← hb1]at c1
   simp only[← hb2]at c2
   have HE:=qh (show rgB d=(b1 && b2) by unfold rgB;rw[hb1,hb2])
   clear hb1 hb2;rcases b1 with _|_
   ·go_wp2_with (go_at_call 182;refine(c1 _).mono ?_;rintro e w' ⟨rfl,rfl⟩)
    go_ret;exact⟨ret_bool (amB_no HD.out (by rw[amQ_eq,HE.out];rfl)).symm,u1⟩
   rcases b2 with _|_
   ·go_wp2_with first|(go_at_call 182;refine(c1 _).mono ?_;rintro e w' ⟨rfl,rfl⟩)|(go_at_call 185;refine(c2 _).mono ?_;rintro e w' ⟨rfl,hup'⟩)
    go_ret;exact⟨ret_bool (amB_no HD.out (by rw[amQ_eq,HE.out];rfl)).symm,u1.trans hup'⟩
   rcases Nat.eq_zero_or_pos k with hk0|hk0
   ·have hgt:¬ 0<k:=by omega
    have HK0:=qh hk0
    clear hk0;go_wp2_with first|(go_at_call 182;refine(c1 _).mono ?_;rintro e w' ⟨rfl,rfl⟩)|(go_at_call 185;refine(c2 _).mono ?_;rintro e w' ⟨rfl,hup'⟩)
    refine wp_region_quiet_below (by kernel_rfl) (by kernel_rfl) ?_
    repeat (first|go_big_quiet_step (fail)|quiet_step (fail))
    refine wpQuiet_nil ?_
    intro w2 hw2
    obtain⟨⟨dq,osq⟩,hw2⟩:=hw2
    have hup2:Up w' w2:=by rw[hw2];exact below_regrown _ _ _
    clear hw2;go_wp2;go_roundw
    case rel=>exact⟨k+1,by omega,by go_num,allK_step HA.out HD.out (by rw[amQ_eq,HE.out,HK0.out];rfl),u1.trans (hup'.trans hup2)⟩
    case measure=>simp[intOf];omega
   obtain⟨q,hkq⟩:∃q,k=q+1:=⟨k-1,by omega⟩
   have hql:q<l.length:=by omega
   have hwr:IntKind.i64.wrap ((k:Int)-1)=(q:Int):=by rw[IntWalk.i64_in _ (by omega)];omega
   obtain⟨b',off',d',hbo,-,-,hd',p0,p1,p2⟩:=(hr.up hup hhi).nm hql
   cases hbo;have HD':=qh hd'
   have HKQ:=qh hkq
   clear hd' hkq;have HP:=qh (show amQ l k d=amP d d' by rw[amQ_eq,HE.out,HKQ.out,pv_s HD'.out];rfl)
   rcases hl:Op.bytesLess d.nm.toList d'.nm.toList with _|_
   ·rcases he:(d.nm.toList==d'.nm.toList) with _|_
    ·have HT:=qh (am_c hl he)
     go_wp2_with first|(go_at_call 182;refine(c1 _).mono ?_;rintro e w' ⟨rfl,rfl⟩)|(go_at_call 185;refine(c2 _).mono ?_;rintro e w' ⟨rfl,hup'⟩)
     have P0:=cell_regrown (hup'.cell ((Up.alloc wr _).cell p0))
     obtain⟨x0,x1,x2⟩:=(hB.up hup').c3
     have X0:=cell_regrown x0
     refine wp_region_quiet_below (by kernel_rfl) (by kernel_rfl) ?_
     repeat (first|go_big_quiet_step (fail)|quiet_step (fail))
     refine wpQuiet_nil ?_
     intro w2 hw2
     obtain⟨⟨dq,osq⟩,hw2⟩:=hw2
     have hup2:Up w' w2:=by rw[hw2];exact below_regrown _ _ _
     clear hw2 P0 X0;go_wp2;go_roundw
     case rel=>exact⟨k+1,by omega,by go_num,allK_step HA.out HD.out (by rw[HP.out,HT.out]),u1.trans (hup'.trans hup2)⟩
     case measure=>simp[intOf];omega
    ·have HT:=qh (am_b he)
     go_wp2_with first|(go_at_call 182;refine(c1 _).mono ?_;rintro e w' ⟨rfl,rfl⟩)|(go_at_call 185;refine(c2 _).mono ?_;rintro e w' ⟨rfl,hup'⟩)
     have P0:=cell_regrown (hup'.cell ((Up.alloc wr _).cell p0))
     have P1:=cell_regrown (hup'.cell ((Up.alloc wr _).cell p1))
     obtain⟨x0,x1,x2⟩:=(hB.up hup').c3
     have X0:=cell_regrown x0
     have X1:=cell_regrown x1
     refine wp_region_quiet_below (by kernel_rfl) (by kernel_rfl) ?_
     repeat (first|go_big_quiet_step (fail)|quiet_step (fail))
     refine wpQuiet_nil ?_
     intro w2 hw2
     obtain⟨⟨dq,osq⟩,hw2⟩:=hw2
     have hup2:Up w' w2:=by rw[hw2];exact below_regrown _ _ _
     clear hw2 P0 X0 P1 X1;go_wp2
     ·have h1:d.fr≤d'.fr:=by assumption
      go_ret;exact⟨ret_bool (amB_no HD.out (by rw[HP.out,HT.out];simp;omega)).symm,u1.trans (hup'.trans hup2)⟩
     ·have h1:¬ d.fr≤d'.fr:=by omega
      go_roundw
      case rel=>exact⟨k+1,by omega,by go_num,allK_step HA.out HD.out (by rw[HP.out,HT.out];simp;omega),u1.trans (hup'.trans hup2)⟩
      case measure=>simp[intOf];omega
   ·have HT:=qh (am_a hl)
    go_wp2_with first|(go_at_call 182;refine(c1 _).mono ?_;rintro e w' ⟨rfl,rfl⟩)|(go_at_call 185;refine(c2 _).mono ?_;rintro e w' ⟨rfl,hup'⟩)
    have P0:=cell_regrown (hup'.cell ((Up.alloc wr _).cell p0))
    obtain⟨x0,x1,x2⟩:=(hB.up hup').c3
    have X0:=cell_regrown x0
    refine wp_region_quiet_below (by kernel_rfl) (by kernel_rfl) ?_
    repeat (first|go_big_quiet_step (fail)|quiet_step (fail))
    refine wpQuiet_nil ?_
    intro w2 hw2
    obtain⟨⟨dq,osq⟩,hw2⟩:=hw2
    have hup2:Up w' w2:=by rw[hw2];exact below_regrown _ _ _
    clear hw2 P0 X0;go_wp2;go_ret;exact⟨ret_bool (amB_no HD.out (by rw[HP.out,HT.out])).symm,u1.trans (hup'.trans hup2)⟩
  ·have HE:=qh (amB_end (l:=l) (fun j d hj hd=>HA.out j d (by omega) hd))
   go_wp2;go_ret;exact⟨ret_bool (by rw[HE.out];exact decide_eq_decide.2 (by omega)),hup⟩
theorem l13Person_any(s:Sl Nm)(t:Sl Tm)(nm:ByteArray)(lo hi:Nat)(w:World)(h:SrNm w lo hi s) :
 Calls Tryz.prog 148 #[.agg #[.slice s.A s.l.length s.c,.slice t.A t.l.length t.c],.string nm] w fun e w'=>e=.returned (.int .i64 (pix s.l nm))∧Up w w':=by
 obtain⟨A,c,l⟩:=s
 have hr:=h.rd
 have hhi:=h.hhi
 have hn:l.length≤2000000:=h.len
 clear h;show Calls _ _ #[.agg #[.slice A l.length c,.slice t.A t.l.length t.c],.string nm] _ fun e w'=>e=.returned (.int .i64 (pix l nm))∧_
 have u1:=Up.alloc w (.cells #[.slice A l.length c,.slice t.A t.l.length t.c] 52)
 have hB:=Bx.new w #[.slice A l.length c,.slice t.A t.l.length t.c] 52
 go_enter Tryz.func148,Tryz.ntmps148
 go_wp2;go_loop [5] (fun i=>∃k:Nat,k≤l.length∧i=.int .i64 k∧(∀j d,j<k→l[j]?=some d→(d.nm.toList==nm.toList)=false)) (fun i=>l.length-(intOf i).toNat)
 case atStart=>exact⟨0,Nat.zero_le _,rfl,fun j d h=>absurd h (by omega)⟩
 case round =>
  obtain⟨k,hk,rfl,ha⟩:=hrel
  have HA:=qh ha
  clear ha;obtain⟨x0,x1⟩:=hB.c2
  by_cases hlt:k<l.length
  ·obtain⟨b,off,d,rfl,-,-,hd,q0,q1,q2⟩:=(hr.up u1 hhi).nm hlt
   have HD:=qh hd
   clear hd;rcases he:(d.nm.toList==nm.toList) with _|_
   ·have HT:=qh he
    go_wp2;go_round
    case rel=>exact⟨k+1,by omega,by go_num,fun j x hj hx=>by
     rcases Nat.lt_or_ge j k with h|h
     ·exact HA.out j x h hx
     ·obtain rfl:j=k:=by omega
      rw[HD.out]at hx;cases hx;exact HT.out⟩
    case measure=>simp[intOf];omega
   ·have HT:=qh he
    go_wp2;go_ret;exact⟨ret_int (ixB_yes HD.out HT.out HA.out).symm,u1⟩
  ·go_wp2
   go_ret;exact⟨ret_int (ixB_no (fun j d hj hd=>HA.out j d (by omega) hd)).symm,u1⟩
def txIx(l:List ByteArray)(s:ByteArray):Int:=ixB l fun x=>x.toList==s.toList
theorem l01TextB_any(A:Option Addr)(l:List ByteArray)(c lo hi:Nat)(s:ByteArray)(w:World)(hr:RdT w lo hi A l)(hn:l.length≤2000000) :
 Calls Tryz.prog 53 #[.slice A l.length c,.string s] w fun e w'=>e=.returned (.int .i64 (txIx l s))∧Up w w':=by
 go_enter Tryz.func53,Tryz.ntmps53
 go_wp2;go_loop [5] (fun i=>∃k:Nat,k≤l.length∧i=.int .i64 k∧(∀j d,j<k→l[j]?=some d→(d.toList==s.toList)=false)) (fun i=>l.length-(intOf i).toNat)
 case atStart=>exact⟨0,Nat.zero_le _,rfl,fun j d h=>absurd h (by omega)⟩
 case round =>
  obtain⟨k,hk,rfl,ha⟩:=hrel
  have HA:=qh ha
  clear ha;by_cases hlt:k<l.length
  ·obtain⟨b,off,d,rfl,-,-,hd,q0⟩:=hr.txt hlt
   have HD:=qh hd
   clear hd;rcases he:(d.toList==s.toList) with _|_
   ·have HT:=qh he
    go_wp2;go_round
    case rel=>exact⟨k+1,by omega,by go_num,fun j x hj hx=>by
     rcases Nat.lt_or_ge j k with h|h
     ·exact HA.out j x h hx
     ·obtain rfl:j=k:=by omega
      rw[HD.out]at hx;cases hx;exact HT.out⟩
    case measure=>simp[intOf];omega
   ·have HT:=qh he
    go_wp2;go_ret;exact⟨ret_int (ixB_yes HD.out HT.out HA.out).symm,Up.refl _⟩
  ·go_wp2
   go_ret;exact⟨ret_int (ixB_no (fun j d hj hd=>HA.out j d (by omega) hd)).symm,Up.refl _⟩
theorem l14Place_any(s:Sl ByteArray)(t:Sl I3)(n:Int)(w:World)(hn:s.l.length≤2000000) :
 Calls Tryz.prog 261 #[.agg #[.slice s.A s.l.length s.c,.slice t.A t.l.length t.c],.int .i64 n] w fun e w'=>e=.returned (.bool (inB n 0 (s.l.length-1)))∧Up w w':=by
 go_enter Tryz.func261,Tryz.ntmps261
 go_wp2_with (go_at_call 49;refine(l01In_any _ _ _ _).mono ?_;rintro e w' ⟨rfl,rfl⟩)
 go_ret;exact⟨rfl,Up.alloc _ _⟩
theorem l15Stay_any(s:Sl ByteArray)(t:Sl I3)(d:I3)(w:World)(hn:s.l.length≤2000000) :
 Calls Tryz.prog 226 #[.agg #[.slice s.A s.l.length s.c,.slice t.A t.l.length t.c],d.val] w fun e w'=>e=.returned (.bool (syB s.l.length d))∧Up w w':=by
 obtain⟨b1,hb1⟩:∃x,x=inB d.a 0 (s.l.length-1):=⟨_,rfl⟩
 obtain⟨b2,hb2⟩:∃x,x=spanB d.b d.d:=⟨_,rfl⟩
 have c1:=fun wx=>l14Place_any s t d.a wx hn
 have c2:=fun wx=>l13Span_any d.b d.d wx
 simp only[← hb1]at c1
 simp only[← hb2]at c2
 have HE:=qh (show syB s.l.length d=(b1 && b2) by unfold syB;rw[hb1,hb2])
 clear hb1 hb2;have u:Up w ((w.alloc (.cells #[.slice s.A s.l.length s.c,.slice t.A t.l.length t.c] 55)).alloc (.cells #[.int .i64 d.a,.int .i64 d.b,.int .i64 d.d] 172)):=(Up.alloc _ _).allocs _
 have hB:Bx ((w.alloc (.cells #[.slice s.A s.l.length s.c,.slice t.A t.l.length t.c] 55)).alloc (.cells #[.int .i64 d.a,.int .i64 d.b,.int .i64 d.d] 172)) (w.heap.size+1) [.int .i64 d.a,.int .i64 d.b,.int .i64 d.d]:=by
  have:=Bx.new (w.alloc (.cells #[.slice s.A s.l.length s.c,.slice t.A t.l.length t.c] 55)) #[.int .i64 d.a,.int .i64 d.b,.int .i64 d.d] 172
  simpa using this
 cases b1<;>cases b2<;>go_enter Tryz.func226,Tryz.ntmps226
 all_goals (go_wp2_with first|(go_at_call 261;refine(c1 _).mono ?_;rintro e w1 ⟨rfl,hup⟩;obtain⟨x0,x1,x2⟩:=(hB.up hup).c3)|(go_at_call 185;refine(c2 _).mono ?_;rintro e w' ⟨rfl,hup'⟩))
 all_goals go_ret
 all_goals exact⟨ret_bool (by rw[HE.out];first|rfl|simp),u.trans (by first|exact hup.trans hup'|exact hup)⟩
theorem find_yes{α:Type}{l:List α}{p:α→Bool}{k:Nat}{d:α}(hd:l[k]?=some d)(h:p d=true)(hb:∀j x,j<k→l[j]?=some x→p x=false):l.find? p=some d:=by
 rw[List.find?_eq_some_iff_getElem];have hk:=(List.getElem?_eq_some_iff.1 hd).1
 refine⟨h,k,hk,(List.getElem?_eq_some_iff.1 hd).2,fun j hj=>?_⟩
 have:=hb j _ hj (List.getElem?_eq_getElem (by omega))
 simp[this]
theorem find_no{α:Type}{l:List α}{p:α→Bool}(h:∀x∈l,p x=false):l.find? p=none:=by
 rw[List.find?_eq_none];intro x hx;simp[h x hx]
theorem tm_no{l:List Nm}{t:Tm}(h:∀x∈l,(x.nm.toList==t.pe.toList)=false):tmB l t=false:=by
 unfold tmB;rw[find_no h];simp
theorem tm_yes{l:List Nm}{t:Tm}{m:Nat}{x:Nm}(hd:l[m]?=some x)(h:(x.nm.toList==t.pe.toList)=true)(hb:∀j y,j<m→l[j]?=some y→(y.nm.toList==t.pe.toList)=false) :
 tmB l t=(nameB t.of_ 12 && (spanB t.fr t.to_ && (decide (x.fr≤t.fr) && decide (t.to_≤x.to_)))):=by
 unfold tmB;rw[find_yes (p:=fun x=>x.nm.toList==t.pe.toList) hd h hb]
theorem ppB_ps{l:List Nm}{ts:List Tm}{k:Nat}{d:Nm}(hd:l[k]?=some d)(h:psQ l k d=false):ppB l ts=false:=by simp[ppB,allK_no hd h]
theorem ppB_ts{l:List Nm}{ts:List Tm}{k:Nat}{d:Tm}(hd:ts[k]?=some d)(h:tmB l d=false):ppB l ts=false:=by
 have:ts.all (tmB l)=false:=by rw[List.all_eq_false];exact⟨d,List.mem_of_getElem? hd,by simp[h]⟩
 simp[ppB,this]
theorem ppB_end{l:List Nm}{ts:List Tm}(h:∀k d,k<l.length→l[k]?=some d→psQ l k d=true)(h2:∀k d,k<ts.length→ts[k]?=some d→tmB l d=true):ppB l ts=(decide (l.length≤40) && decide (ts.length≤60)):=by
 have:ts.all (tmB l)=true:=by
  rw[List.all_eq_true];intro x hx
  obtain⟨j,hj,e⟩:=List.getElem_of_mem hx
  exact h2 j x hj (by rw[List.getElem?_eq_getElem hj,e])
 simp[ppB,allK_end h,this]
theorem ps_eq(l:List Nm)(k:Nat)(d:Nm):psQ l k d=(rgB d && pv l k fun x=>lessB x.nm d.nm):=rfl
theorem ps_bad{d x:Nm}(h:(Op.bytesLess d.nm.toList x.nm.toList || d.nm.toList==x.nm.toList)=true):lessB x.nm d.nm=false:=by
 unfold lessB
 rcases Bool.or_eq_true _ _ ▸ h with h|h
 ·exact less_asym _ _ h
 ·rw[show d.nm.toList=x.nm.toList by simpa using h,less_irr]
theorem ps_good{d x:Nm}(h:(Op.bytesLess d.nm.toList x.nm.toList || d.nm.toList==x.nm.toList)=false):lessB x.nm d.nm=true:=by
 unfold lessB
 rw[Bool.or_eq_false_iff]at h;rcases h3:Op.bytesLess x.nm.toList d.nm.toList with _|_
 ·exfalso
  have:=less_tri _ _ h.1 h3
  rw[this]at h;simp at h
 ·rfl
theorem specIsPeople_any(s:Sl Nm)(t:Sl Tm)(lo hi:Nat)(w:World)(h:SrNm w lo hi s)(h2:SrTm w lo hi t) :
 Calls Tryz.prog 179 #[.agg #[.slice s.A s.l.length s.c,.slice t.A t.l.length t.c]] w fun e w'=>e=.returned (.bool (ppB s.l t.l))∧Up w w':=by
 obtain⟨A,c,l⟩:=s
 obtain⟨B,ct,ts⟩:=t
 have hn:l.length≤2000000:=h.len
 have hn2:ts.length≤2000000:=h2.len
 have hok:=qh h.ok
 have hok2:=qh h2.ok
 have hr:=h.rd
 have hhi:=h.hhi
 have hr2:=h2.rd
 have HS:=qh h
 clear h h2;show Calls _ _ #[.agg #[.slice A l.length c,.slice B ts.length ct]] _ fun e w'=>e=.returned (.bool (ppB l ts))∧_
 have u0:=Up.alloc w (.cells #[.slice A l.length c,.slice B ts.length ct] 52)
 have hB:=Bx.new w #[.slice A l.length c,.slice B ts.length ct] 52
 go_enter Tryz.func179,Tryz.ntmps179
 go_wp2;generalize w.alloc (.cells #[.slice A l.length c,.slice B ts.length ct] 52)=w0 at *
 go_loopw [3,4] (fun i u4 wr=>∃k:Nat,k≤l.length∧i=.int .i64 k∧(∀j d,j<k→l[j]?=some d→psQ l j d=true)∧Up w0 wr) (fun i _ _=>l.length-(intOf i).toNat)
 case atStart=>exact⟨0,Nat.zero_le _,rfl,fun j d h=>absurd h (by omega),Up.refl _⟩
 case round =>
  obtain⟨k,hk,rfl,ha,hup⟩:=hrel
  have HA:=qh ha
  clear ha;obtain⟨x0,x1⟩:=(hB.up hup).c2
  by_cases hlt:k<l.length
  ·obtain⟨b,off,d,rfl,-,-,hd,q0,q1,q2⟩:=((hr.up u0 hhi).up hup (Nat.le_trans hhi u0.size)).nm hlt
   have HD:=qh hd
   clear hd;have v1:=Up.alloc wr (.cells #[.string d.nm,.int .i64 d.fr,.int .i64 d.to_] 229)
   have hX:=Bx.new wr #[.string d.nm,.int .i64 d.fr,.int .i64 d.to_] 229
   go_wp2_with fail
   generalize wr.alloc (.cells #[.string d.nm,.int .i64 d.fr,.int .i64 d.to_] 229)=W1 at *
   obtain⟨x0,x1⟩:=(hB.up (hup.trans v1)).c2
   obtain⟨y0,y1,y2⟩:=hX.c3
   have X0:=cell_regrown x0
   have Y0:=cell_regrown y0
   have Y1:=cell_regrown y1
   have Y2:=cell_regrown y2
   obtain⟨b1,hb1⟩:∃x,x=nameB d.nm 12:=⟨_,rfl⟩
   obtain⟨b2,hb2⟩:∃x,x=spanB d.fr d.to_:=⟨_,rfl⟩
   have cN:∀dd os,Calls Tryz.prog 182 #[.string d.nm,.int .i64 12] (grow (redrawn W1 dd) os) fun e w''=>e=.returned (.bool (nameB d.nm 12))∧∃p:Regrown,w''=grow (redrawn W1 p.d) p.os :=
    fun dd os=>Calls.regrown_of (l01NameU d.nm 12 _ (hok.out d (List.mem_of_getElem? HD.out)))
   have cS:∀dd os,Calls Tryz.prog 185 #[.int .i64 d.fr,.int .i64 d.to_] (grow (redrawn W1 dd) os) fun e w''=>e=.returned (.bool (spanB d.fr d.to_))∧∃p:Regrown,w''=grow (redrawn W1 p.d) p.os :=
    fun dd os=>Calls.regrown_of (l13Span_any d.fr d.to_ _)
   rw[← hb1]at cN;rw[← hb2]at cS;have HE:=qh (show rgB d=(b1 && b2) by unfold rgB;rw[hb1,hb2])
   clear hb1 hb2 x0 x1 y0 y1 y2;rcases b1 with _|_
   ·refine wp_region_quiet_below (by kernel_rfl) (by kernel_rfl) ?_
    repeat (first|go_big_quiet_step ((first|(go_at_call 182;exact cN _ _)|(go_at_call 185;exact cS _ _)))|quiet_step ((first|(go_at_call 182;exact cN _ _)|(go_at_call 185;exact cS _ _))))
    refine wpQuiet_nil ?_
    intro w2 hw2
    obtain⟨⟨dq,osq⟩,hw2⟩:=hw2
    have hup2:Up W1 w2:=by rw[hw2];exact below_regrown _ _ _
    clear hw2 X0 Y0 Y1 Y2 cN cS;go_wp2;go_ret;exact⟨ret_bool (ppB_ps HD.out (by rw[ps_eq,HE.out];rfl)).symm,u0.trans (hup.trans (v1.trans hup2))⟩
   rcases b2 with _|_
   ·refine wp_region_quiet_below (by kernel_rfl) (by kernel_rfl) ?_
    repeat (first|go_big_quiet_step ((first|(go_at_call 182;exact cN _ _)|(go_at_call 185;exact cS _ _)))|quiet_step ((first|(go_at_call 182;exact cN _ _)|(go_at_call 185;exact cS _ _))))
    refine wpQuiet_nil ?_
    intro w2 hw2
    obtain⟨⟨dq,osq⟩,hw2⟩:=hw2
    have hup2:Up W1 w2:=by rw[hw2];exact below_regrown _ _ _
    clear hw2 X0 Y0 Y1 Y2 cN cS;go_wp2;go_ret;exact⟨ret_bool (ppB_ps HD.out (by rw[ps_eq,HE.out];rfl)).symm,u0.trans (hup.trans (v1.trans hup2))⟩
   rcases Nat.eq_zero_or_pos k with hk0|hk0
   ·have hgt:¬ 0<k:=by omega
    have HK0:=qh hk0
    clear hk0;refine wp_region_quiet_below (by kernel_rfl) (by kernel_rfl) ?_
    repeat (first|go_big_quiet_step ((first|(go_at_call 182;exact cN _ _)|(go_at_call 185;exact cS _ _)))|quiet_step ((first|(go_at_call 182;exact cN _ _)|(go_at_call 185;exact cS _ _))))
    refine wpQuiet_nil ?_
    intro w2 hw2
    obtain⟨⟨dq,osq⟩,hw2⟩:=hw2
    have hup2:Up W1 w2:=by rw[hw2];exact below_regrown _ _ _
    clear hw2 X0 Y0 Y1 Y2 cN cS;go_wp2;go_roundw
    case rel=>exact⟨k+1,by omega,by go_num,allK_step HA.out HD.out (by rw[ps_eq,HE.out,HK0.out];rfl),hup.trans (v1.trans hup2)⟩
    case measure=>simp[intOf];omega
   obtain⟨q,hkq⟩:∃q,k=q+1:=⟨k-1,by omega⟩
   have hql:q<l.length:=by omega
   have hwr:IntKind.i64.wrap ((k:Int)-1)=(q:Int):=by rw[IntWalk.i64_in _ (by omega)];omega
   obtain⟨b',off',d',hbo,-,-,hd',p0,p1,p2⟩:=((hr.up u0 hhi).up (hup.trans v1) (Nat.le_trans hhi u0.size)).nm hql
   cases hbo;have HD':=qh hd'
   have HKQ:=qh hkq
   have P0:=cell_regrown p0
   clear hd' hkq p0 p1 p2;obtain⟨rr,hrr⟩:∃x,x=(Op.bytesLess d.nm.toList d'.nm.toList || d.nm.toList==d'.nm.toList):=⟨_,rfl⟩
   have HRR:=qh hrr
   rcases rr with _|_
   ·have HT:=qh (ps_good HRR.out.symm)
    have hz1:Op.bytesLess d.nm.toList d'.nm.toList=false:=(Bool.or_eq_false_iff.1 hrr.symm).1
    have hz2:(d.nm.toList==d'.nm.toList)=false:=(Bool.or_eq_false_iff.1 hrr.symm).2
    clear hrr;refine wp_region_quiet_below (by kernel_rfl) (by kernel_rfl) ?_
    repeat (first|go_big_quiet_step ((first|(go_at_call 182;exact cN _ _)|(go_at_call 185;exact cS _ _)))|quiet_step ((first|(go_at_call 182;exact cN _ _)|(go_at_call 185;exact cS _ _))))
    refine wpQuiet_nil ?_
    intro w2 hw2
    obtain⟨⟨dq,osq⟩,hw2⟩:=hw2
    have hup2:Up W1 w2:=by rw[hw2];exact below_regrown _ _ _
    clear hw2 X0 Y0 Y1 Y2 P0 cN cS;go_wp2;go_roundw
    case rel=>exact⟨k+1,by omega,by go_num,allK_step HA.out HD.out (by rw[ps_eq,HE.out,HKQ.out,pv_s HD'.out,HT.out];rfl),hup.trans (v1.trans hup2)⟩
    case measure=>simp[intOf];omega
   ·have HT:=qh (ps_bad HRR.out.symm)
    rcases Bool.or_eq_true _ _ ▸ hrr.symm with hz|hz
    all_goals clear hrr
    all_goals (
     refine wp_region_quiet_below (by kernel_rfl) (by kernel_rfl) ?_
     repeat (first|go_big_quiet_step ((first|(go_at_call 182;exact cN _ _)|(go_at_call 185;exact cS _ _)))|quiet_step ((first|(go_at_call 182;exact cN _ _)|(go_at_call 185;exact cS _ _))))
     refine wpQuiet_nil ?_
     intro w2 hw2
     obtain⟨⟨dq,osq⟩,hw2⟩:=hw2
     have hup2:Up W1 w2:=by rw[hw2];exact below_regrown _ _ _
     clear hw2 X0 Y0 Y1 Y2 P0 cN cS;go_wp2;go_ret;exact⟨ret_bool (ppB_ps HD.out (by rw[ps_eq,HE.out,HKQ.out,pv_s HD'.out,HT.out];rfl)).symm,u0.trans (hup.trans (v1.trans hup2))⟩)
  ·have HPS:Hid (∀j d,j<l.length→l[j]?=some d→psQ l j d=true):=qh (fun j d hj hd=>HA.out j d (by omega) hd)
   clear HA;go_wp2;obtain⟨wo,hwo⟩:∃x,x=wr:=⟨_,rfl⟩
   rw[← hwo]at hup;have hupo:=hup
   have HWO:=qh hwo
   clear hwo hup x0 x1;go_loopw [5,6,7] (fun i u6 u7 wr=>∃k:Nat,k≤ts.length∧i=.int .i64 k∧(∀j d,j<k→ts[j]?=some d→tmB l d=true)∧Up w0 wr) (fun i _ _ _=>ts.length-(intOf i).toNat)
   case atStart=>exact⟨0,Nat.zero_le _,rfl,fun j d h=>absurd h (by omega),by rw[← HWO.out];exact hupo⟩
   case round =>
    obtain⟨k2,hk2,rfl,ha,hup⟩:=hrel
    have HA:=qh ha
    clear ha;obtain⟨x0,x1⟩:=(hB.up hup).c2
    by_cases hlt2:k2<ts.length
    ·obtain⟨b,off,d,rfl,-,-,hd,q0,q1,q2,q3⟩:=((hr2.up u0 hhi).up hup (Nat.le_trans hhi u0.size)).tm hlt2
     have HD:=qh hd
     clear hd;have v1:=Up.alloc wr (.cells #[.string d.of_,.string d.pe,.int .i64 d.fr,.int .i64 d.to_] 236)
     have hX:=Bx.new wr #[.string d.of_,.string d.pe,.int .i64 d.fr,.int .i64 d.to_] 236
     have hpix:=l13Person_any ⟨A,c,l⟩ ⟨some ⟨b,off,none⟩,ct,ts⟩ d.pe lo hi (wr.alloc (.cells #[.string d.of_,.string d.pe,.int .i64 d.fr,.int .i64 d.to_] 236)) (HS.out.up (u0.trans (hup.trans v1)))
     obtain⟨pz,hpz⟩:∃x,x=pix l d.pe:=⟨_,rfl⟩
     have HPX:Hid (Calls Tryz.prog 148 #[.agg #[.slice A l.length c,.slice (some ⟨b,off,none⟩) ts.length ct],.string d.pe] (wr.alloc (.cells #[.string d.of_,.string d.pe,.int .i64 d.fr,.int .i64 d.to_] 236)) fun e w'=>e=.returned (.int .i64 pz)∧Up (wr.alloc (.cells #[.string d.of_,.string d.pe,.int .i64 d.fr,.int .i64 d.to_] 236)) w'):=qh (by rw[hpz];exact hpix)
     clear hpix;have HPZ:=qh hpz
     clear hpz;obtain⟨x0,x1⟩:=(hB.up (hup.trans v1)).c2
     go_wp2_with (go_at_call 148;refine HPX.out.mono ?_;rintro e W1 ⟨rfl,v2⟩)
     clear HPX x0 x1;have uW:=hup.trans (v1.trans v2)
     obtain⟨x0,x1⟩:=(hB.up uW).c2
     obtain⟨y0,y1,y2,y3⟩:=(hX.up v2).c4
     have X0:=cell_regrown x0
     have Y0:=cell_regrown y0
     have Y2:=cell_regrown y2
     have Y3:=cell_regrown y3
     obtain⟨b1,hb1⟩:∃x,x=nameB d.of_ 12:=⟨_,rfl⟩
     obtain⟨b2,hb2⟩:∃x,x=spanB d.fr d.to_:=⟨_,rfl⟩
     have cN:∀dd os,Calls Tryz.prog 182 #[.string d.of_,.int .i64 12] (grow (redrawn W1 dd) os) fun e w''=>e=.returned (.bool (nameB d.of_ 12))∧∃p:Regrown,w''=grow (redrawn W1 p.d) p.os :=
      fun dd os=>Calls.regrown_of (l01NameU d.of_ 12 _ (hok2.out d (List.mem_of_getElem? HD.out)).1)
     have cS:∀dd os,Calls Tryz.prog 185 #[.int .i64 d.fr,.int .i64 d.to_] (grow (redrawn W1 dd) os) fun e w''=>e=.returned (.bool (spanB d.fr d.to_))∧∃p:Regrown,w''=grow (redrawn W1 p.d) p.os :=
      fun dd os=>Calls.regrown_of (l13Span_any d.fr d.to_ _)
     rw[← hb1]at cN;rw[← hb2]at cS;have HB1:=qh hb1
     have HB2:=qh hb2
     clear hb1 hb2 x0 x1 y0 y1 y2 y3;rcases ixB_or l (fun x=>x.nm.toList==d.pe.toList) with⟨hz,hno⟩|⟨m,d',hz,hd',hpe,hfst⟩
     ·have hpn:pz=-1:=HPZ.out.trans hz
      subst hpn;have HT:=qh (tm_no (t:=d) hno)
      clear hz hno;rcases b1 with _|_
      all_goals (
       refine wp_region_quiet_below (by kernel_rfl) (by kernel_rfl) ?_
       repeat (first|go_big_quiet_step ((first|(go_at_call 182;exact cN _ _)|(go_at_call 185;exact cS _ _)))|quiet_step ((first|(go_at_call 182;exact cN _ _)|(go_at_call 185;exact cS _ _))))
       refine wpQuiet_nil ?_
       intro w2 hw2
       obtain⟨⟨dq,osq⟩,hw2⟩:=hw2
       have hup2:Up W1 w2:=by rw[hw2];exact below_regrown _ _ _
       clear hw2 X0 Y0 Y2 Y3 cN cS;go_wp2;go_ret;exact⟨ret_bool (ppB_ts HD.out HT.out).symm,u0.trans (uW.trans hup2)⟩)
     ·have hpn:pz=(m:Int):=HPZ.out.trans hz
      subst hpn;have hml:=(List.getElem?_eq_some_iff.1 hd').1
      have HT:=qh (tm_yes (t:=d) hd' hpe hfst)
      have R3:=(hr.up u0 hhi).up uW (Nat.le_trans hhi u0.size)
      obtain⟨b',off',d'',rfl,-,-,hd'',p0,p1,p2⟩:=R3.nm hml
      obtain rfl:d'=d'':=by rw[hd']at hd'';exact Option.some.inj hd''
      clear hz hd' hpe hfst hd'' R3 p0;have P1:=cell_regrown p1
      have P2:=cell_regrown p2
      clear p1 p2;have hm0:¬ (m:Int)<0:=by omega
      rcases b1 with _|_
      ·refine wp_region_quiet_below (by kernel_rfl) (by kernel_rfl) ?_
       repeat (first|go_big_quiet_step ((first|(go_at_call 182;exact cN _ _)|(go_at_call 185;exact cS _ _)))|quiet_step ((first|(go_at_call 182;exact cN _ _)|(go_at_call 185;exact cS _ _))))
       refine wpQuiet_nil ?_
       intro w2 hw2
       obtain⟨⟨dq,osq⟩,hw2⟩:=hw2
       have hup2:Up W1 w2:=by rw[hw2];exact below_regrown _ _ _
       clear hw2 X0 Y0 Y2 Y3 P1 P2 cN cS;go_wp2;go_ret;exact⟨ret_bool (ppB_ts HD.out (by rw[HT.out,← HB1.out];rfl)).symm,u0.trans (uW.trans hup2)⟩
      rcases b2 with _|_
      ·refine wp_region_quiet_below (by kernel_rfl) (by kernel_rfl) ?_
       repeat (first|go_big_quiet_step ((first|(go_at_call 182;exact cN _ _)|(go_at_call 185;exact cS _ _)))|quiet_step ((first|(go_at_call 182;exact cN _ _)|(go_at_call 185;exact cS _ _))))
       refine wpQuiet_nil ?_
       intro w2 hw2
       obtain⟨⟨dq,osq⟩,hw2⟩:=hw2
       have hup2:Up W1 w2:=by rw[hw2];exact below_regrown _ _ _
       clear hw2 X0 Y0 Y2 Y3 P1 P2 cN cS;go_wp2;go_ret;exact⟨ret_bool (ppB_ts HD.out (by rw[HT.out,← HB1.out,← HB2.out];rfl)).symm,u0.trans (uW.trans hup2)⟩
      by_cases h1:d.fr<d'.fr
      ·refine wp_region_quiet_below (by kernel_rfl) (by kernel_rfl) ?_
       repeat (first|go_big_quiet_step ((first|(go_at_call 182;exact cN _ _)|(go_at_call 185;exact cS _ _)))|quiet_step ((first|(go_at_call 182;exact cN _ _)|(go_at_call 185;exact cS _ _))))
       refine wpQuiet_nil ?_
       intro w2 hw2
       obtain⟨⟨dq,osq⟩,hw2⟩:=hw2
       have hup2:Up W1 w2:=by rw[hw2];exact below_regrown _ _ _
       clear hw2 X0 Y0 Y2 Y3 P1 P2 cN cS;go_wp2;go_ret;exact⟨ret_bool (ppB_ts HD.out (by rw[HT.out,← HB1.out,← HB2.out];simp;omega)).symm,u0.trans (uW.trans hup2)⟩
      by_cases h3:d'.to_<d.to_
      ·refine wp_region_quiet_below (by kernel_rfl) (by kernel_rfl) ?_
       repeat (first|go_big_quiet_step ((first|(go_at_call 182;exact cN _ _)|(go_at_call 185;exact cS _ _)))|quiet_step ((first|(go_at_call 182;exact cN _ _)|(go_at_call 185;exact cS _ _))))
       refine wpQuiet_nil ?_
       intro w2 hw2
       obtain⟨⟨dq,osq⟩,hw2⟩:=hw2
       have hup2:Up W1 w2:=by rw[hw2];exact below_regrown _ _ _
       clear hw2 X0 Y0 Y2 Y3 P1 P2 cN cS;go_wp2;go_ret;exact⟨ret_bool (ppB_ts HD.out (by rw[HT.out,← HB1.out,← HB2.out];simp;omega)).symm,u0.trans (uW.trans hup2)⟩
      have HG:=qh (show tmB l d=true by rw[HT.out,← HB1.out,← HB2.out];simp;omega)
      refine wp_region_quiet_below (by kernel_rfl) (by kernel_rfl) ?_
      repeat (first|go_big_quiet_step ((first|(go_at_call 182;exact cN _ _)|(go_at_call 185;exact cS _ _)))|quiet_step ((first|(go_at_call 182;exact cN _ _)|(go_at_call 185;exact cS _ _))))
      refine wpQuiet_nil ?_
      intro w2 hw2
      obtain⟨⟨dq,osq⟩,hw2⟩:=hw2
      have hup2:Up W1 w2:=by rw[hw2];exact below_regrown _ _ _
      clear hw2 X0 Y0 Y2 Y3 P1 P2 cN cS;go_wp2;go_roundw
      case rel=>exact⟨k2+1,by omega,by go_num,allK_step (q:=fun _=>tmB l) HA.out HD.out HG.out,uW.trans hup2⟩
      case measure=>simp[intOf];omega
    ·have HE:=qh (ppB_end (l:=l) (ts:=ts) HPS.out (fun j d hj hd=>HA.out j d (by omega) hd))
     clear HPS HA;by_cases g1:l.length≤40
     ·go_wp2
      go_ret;exact⟨ret_bool (by rw[HE.out,decide_eq_true g1];exact decide_eq_decide.2 (by omega)),u0.trans hup⟩
     ·go_wp2
      go_ret;exact⟨ret_bool (by rw[HE.out,decide_eq_false g1];rfl),u0.trans hup⟩
end Go.Proofs.YtihcmhmanfobcaaGreatDoor
namespace Go.Proofs.YtihcmhmanfobcaaGreatDoor
def ml(y m:Int):Int:=if m=2 then(if y % 4=0 then 29 else 28) else if m=4∨m=6∨m=9∨m=11 then 30 else 31
theorem ml_bd(y m:Int):28≤ml y m∧ml y m≤31:=by unfold ml;split<;>split<;>omega
def ny(y:Int):Int:=365*(y-1)+(y-1)/4
def cum(y:Int):Nat→Int
 | 0=>0
 | k+1=>cum y k+ml y (k+1)
def num(y m d:Int):Int:=ny y+d-1+cum y (m-1).toNat
theorem cum_s(y:Int)(k:Nat):cum y (k+1)=cum y k+ml y (k+1):=rfl
theorem cum_mono(y:Int):∀(a b:Nat),a≤b→cum y a≤cum y b
 | a,b,h=>by
   induction b with
   | zero=>obtain rfl:a=0:=by omega
           exact Int.le_refl _
   | succ b ih =>
     rcases Nat.lt_or_ge b a with h1|h1
     ·obtain rfl:a=b+1:=by omega
      exact Int.le_refl _
     ·have:=ih h1;have:=ml_bd y (b+1);rw[cum_s];omega
theorem cum_12(y:Int):cum y 12=if y % 4=0 then 366 else 365:=by
 have h:∀k:Nat,cum y (k+1)=cum y k+ml y (k+1):=cum_s y
 rw[h 11,h 10,h 9,h 8,h 7,h 6,h 5,h 4,h 3,h 2,h 1,h 0];by_cases c:y % 4=0<;>simp[cum,ml,c]
theorem ny_next(y:Int):ny (y+1)=ny y+if y % 4=0 then 366 else 365:=by unfold ny;split<;>omega
theorem ny_mono{a b:Int}(h:a≤b):ny a≤ny b:=by unfold ny;omega
def yOf(n:Int):Int:=(4*n+3)/1461+1
theorem yOf_ny(n:Int):ny (yOf n)≤n∧n<ny (yOf n+1):=by unfold ny yOf;omega
theorem yOf_eq{n y:Int}(h:ny y≤n)(h2:n<ny (y+1)):y=yOf n:=by unfold ny yOf at *;omega
theorem yOf_bd{n:Int}(h:0≤n)(h2:n≤730499):1≤yOf n∧yOf n≤2000:=by unfold yOf;omega
def mOf(y r:Int):Nat:=(List.range 12).countP fun k=>decide (cum y (k+1)≤r)
theorem countP_pre(q:Nat→Bool)(hq:∀a b,a≤b→q b=true→q a=true):∀(n m:Nat),m≤n→(∀k,k<m→q k=true)→(∀k,m≤k→k<n→q k=false)→(List.range n).countP q=m
 | 0,m,h,_,_=>by obtain rfl:m=0:=by omega
                 rfl
 | n+1,m,h,h1,h2=>by
   rw[List.range_succ,List.countP_append,List.countP_singleton];rcases Nat.lt_or_ge n m with h3|h3
   ·obtain rfl:m=n+1:=by omega
    rw[countP_pre q hq n n (Nat.le_refl _) (fun k hk=>h1 k (by omega)) (fun k hk hk'=>absurd hk' (by omega)),h1 n (by omega)];rfl
   ·rw[countP_pre q hq n m h3 h1 (fun k hk hk'=>h2 k hk (by omega)),h2 n h3 (by omega)];rfl
theorem mOf_eq{y r:Int}{m:Nat}(hm:m<12)(h1:cum y m≤r)(h2:r<cum y (m+1)):mOf y r=m:=by
 refine countP_pre _ (fun a b hab hb=>?_) 12 m (by omega) (fun k hk=>?_) (fun k hk hk'=>?_)
 ·have:=cum_mono y (a+1) (b+1) (by omega);simp only[decide_eq_true_eq]at *;omega
 ·have:=cum_mono y (k+1) m (by omega);simp only[decide_eq_true_eq];omega
 ·have:=cum_mono y (m+1) (k+1) (by omega);simp only[decide_eq_false_iff_not];omega
theorem mOf_ex{y r:Int}(h0:0≤r)(h1:r<cum y 12):mOf y r<12∧cum y (mOf y r)≤r∧r<cum y (mOf y r+1):=by
 have h:∃m,m<12∧cum y m≤r∧r<cum y (m+1):=by
  have hg:∀k,r<cum y k→∃m,m<k∧cum y m≤r∧r<cum y (m+1):=by
   intro k
   induction k with
   | zero=>intro h;simp only[cum]at h;omega
   | succ k ih =>
     intro h
     rcases Int.lt_or_le r (cum y k) with h3|h3
     ·obtain⟨m,h4,h5⟩:=ih h3;exact⟨m,by omega,h5⟩
     ·exact⟨k,by omega,h3,h⟩
  exact hg 12 h1
 obtain⟨m,a,b,c⟩:=h
 rw[mOf_eq a b c];exact⟨a,b,c⟩
def dM(n:Int):Int:=mOf (yOf n) (n-ny (yOf n))+1
def dD(n:Int):Int:=n-ny (yOf n)-cum (yOf n) (mOf (yOf n) (n-ny (yOf n)))+1
theorem date_bd(n:Int):1≤dM n∧dM n≤12∧1≤dD n∧dD n≤ml (yOf n) (dM n)∧num (yOf n) (dM n) (dD n)=n:=by
 have h1:=yOf_ny n
 have h2:=ny_next (yOf n)
 have h3:=cum_12 (yOf n)
 obtain⟨a,b,c⟩:=mOf_ex (y:=yOf n) (r:=n-ny (yOf n)) (by omega) (by omega)
 rw[cum_s]at c;unfold dM dD num
 refine⟨by omega,by omega,by omega,by omega,?_⟩
 rw[show(((mOf (yOf n) (n-ny (yOf n)):Nat):Int)+1-1).toNat=mOf (yOf n) (n-ny (yOf n)) by omega]
 omega
theorem num_bd{y m d:Int}(hy:1≤y)(hy2:y≤2001)(hm:1≤m)(hm2:m≤12)(hd:1≤d)(hd2:d≤31):0≤num y m d∧num y m d≤731000:=by
 have h1:=cum_mono y 0 (m-1).toNat (by omega)
 have h2:=cum_mono y (m-1).toNat 12 (by omega)
 have h3:=cum_12 y
 have h4:cum y 0=0:=rfl
 unfold num ny;split at h3<;>omega
def esS(y:Int):Int:=(19*(y % 19)+15) % 30+(2*(y % 4)+4*(y % 7)-(19*(y % 19)+15) % 30+34) % 7+114
def eaM(y:Int):Int:=esS y/31
def eaD(y:Int):Int:=esS y % 31+1
def eaN(y:Int):Int:=num y (eaM y) (eaD y)
theorem ea_bd{y:Int}(_h:0≤y):3≤eaM y∧eaM y≤4∧1≤eaD y∧eaD y≤31:=by unfold eaM eaD esS;omega
def feM(f:Int):Int:=([1,1,2,3,6,6,8,8,9,11,11,11,12,12]:List Int).getD f.toNat 0
def feD(f:Int):Int:=([1,6,2,25,24,29,10,15,29,1,11,30,6,25]:List Int).getD f.toNat 0
def feO(f:Int):Int:=([-46,-7,0,39,49,56]:List Int).getD (f-14).toNat 0
def feN(f y:Int):Int:=if f<14 then num y (feM f) (feD f) else eaN y+feO f
def wkN(n:Int):Int:=(n+5) % 7
def rlN(f r w y:Int):Int :=
 if r=1 then feN f y-1 else if r=2 then feN f y+7 else if r=3 then feN f y+1+(w-wkN (feN f y)+13) % 7
 else if r=4 then feN f y-1-(wkN (feN f y)-w+13) % 7 else feN f y
def bgN(s y:Int):Int :=
 if s=1 then num y 3 1 else if s=2 then num y 3 25 else if s=3 then num (y-1) 3 25 else if s=4 then eaN y else if s=5 then num (y-1) 12 25 else if s=6 then num (y-1) 9 1 else num y 1 1
def ysB(y:Int):Bool:=inB y 2 1999
def yrIs(s n y:Int):Bool:=ysB y && inB n (bgN s y) (bgN s (y+1)-1)
def yrOn(s n:Int):Option Int:=if yrIs s n (yOf n-1) then some (yOf n-1) else if yrIs s n (yOf n) then some (yOf n) else if yrIs s n (yOf n+1) then some (yOf n+1) else none
def inY(y:Int):Int:=(y+2) % 15+1
def inN(k n:Int):Int:=if k≠2∧num (yOf n) 9 (if k=1 then 24 else 1)≤n then inY (yOf n+1) else inY (yOf n)
def rbN(f k:Int):Int:=if dM f=2∧dD f=29∧(yOf f+k-1) % 4≠0 then num (yOf f+k-1) 3 1 else num (yOf f+k-1) (dM f) (dD f)
theorem num_in{y m d:Int}(hm:1≤m)(hm2:m≤12)(hd:1≤d)(hd2:d≤ml y m):ny y≤num y m d∧num y m d<ny (y+1):=by
 have h1:=cum_mono y 0 (m-1).toNat (by omega)
 have h2:=cum_mono y (m-1+1).toNat 12 (by omega)
 have h3:=cum_12 y
 have h4:cum y 0=0:=rfl
 have h5:=cum_s y (m-1).toNat
 have h6:=ny_next y
 rw[show(m-1+1).toNat=(m-1).toNat+1 by omega]at h2
 rw[show(((m-1).toNat:Nat):Int)+1=m by omega]at h5
 unfold num
 split at h3<;>rename_i hy<;>simp only[hy,if_true,if_false]at h6<;>omega
theorem ml_same{y y' m:Int}(h:m≠2):ml y m=ml y' m:=by unfold ml;rw[if_neg h,if_neg h]
theorem rb_in(f k:Int):ny (yOf f+k-1)≤rbN f k∧rbN f k<ny (yOf f+k-1+1):=by
 obtain⟨a,b,c,d,-⟩:=date_bd f
 unfold rbN
 split
 ·exact num_in (by omega) (by omega) (by omega) (by unfold ml;split<;>omega)
 ·rename_i hn
  refine num_in a b c ?_
  by_cases h2:dM f=2
  ·rw[h2]at d ⊢
   unfold ml at d ⊢
   simp only[if_true]at d ⊢
   split at d<;>split<;>omega
  ·rw[ml_same (y':=yOf f) h2];exact d
theorem rb_lt{f k:Int}:rbN f k<rbN f (k+1):=by
 have h1:=(rb_in f k).2
 have h2:=(rb_in f (k+1)).1
 rw[show yOf f+(k+1)-1=yOf f+k-1+1 by omega]at h2
 omega
theorem rb_mono{f k:Int}:∀(j:Nat),rbN f k+j≤rbN f (k+j)
 | 0=>by simp
 | j+1=>by
   have h1:=rb_mono (f:=f) (k:=k) j
   have h2:=rb_lt (f:=f) (k:=k+j)
   rw[show k+((j+1:Nat):Int)=k+j+1 by omega]
   omega
theorem rb_one(f:Int):rbN f 1=f:=by
 obtain⟨a,b,c,d,e⟩:=date_bd f
 unfold rbN
 rw[show yOf f+1-1=yOf f by omega]
 split
 ·rename_i h
  rw[h.1,h.2.1]at d;unfold ml at d
  simp only[if_true]at d
  rw[if_neg h.2.2]at d;omega
 ·exact e
def rgY(f n:Int):Int:=yOf n-yOf f+if rbN f (yOf n-yOf f+1)≤n then 1 else 0
theorem rgY_sp(f n:Int):rbN f (rgY f n)≤n∧n<rbN f (rgY f n+1):=by
 obtain⟨h1,h2⟩:=yOf_ny n
 unfold rgY
 split
 ·rename_i h
  refine⟨h,?_⟩
  have:=(rb_in f (yOf n-yOf f+1+1)).1
  rw[show yOf f+(yOf n-yOf f+1+1)-1=yOf n+1 by omega]at this
  omega
 ·rename_i h
  have:=(rb_in f (yOf n-yOf f)).2
  rw[show yOf f+(yOf n-yOf f)-1+1=yOf n by omega]at this
  rw[Int.add_zero];omega
theorem rgY_eq{f n k:Int}(h1:rbN f k≤n)(h2:n<rbN f (k+1)):k=rgY f n:=by
 obtain⟨h3,h4⟩:=rgY_sp f n
 rcases Int.lt_trichotomy k (rgY f n) with h|h|h
 ·have:=rb_mono (f:=f) (k:=k+1) (rgY f n-(k+1)).toNat
  rw[show k+1+(((rgY f n-(k+1)).toNat:Nat):Int)=rgY f n by omega]at this
  omega
 ·exact h
 ·have:=rb_mono (f:=f) (k:=rgY f n+1) (k-(rgY f n+1)).toNat
  rw[show rgY f n+1+(((k-(rgY f n+1)).toNat:Nat):Int)=k by omega]at this
  omega
theorem rb_start{f n:Int}(h:f≤n):rbN f (max 1 (yOf n-yOf f))≤n:=by
 obtain⟨h1,h2⟩:=yOf_ny n
 rcases Int.lt_or_le (yOf n-yOf f) 1 with h3|h3
 ·rw[Int.max_eq_left (by omega),rb_one];exact h
 ·rw[Int.max_eq_right (by omega)]
  have:=(rb_in f (yOf n-yOf f)).2
  rw[show yOf f+(yOf n-yOf f)-1+1=yOf n by omega]at this
  omega
theorem rb_year{f n k:Int}(h:rbN f k≤n):yOf f+k-1≤yOf n:=by
 obtain⟨h1,h2⟩:=yOf_ny n
 have h3:=(rb_in f k).1
 rcases Int.lt_or_le (yOf n) (yOf f+k-1) with h4|h4
 ·have:=ny_mono (show yOf n+1≤yOf f+k-1 by omega);omega
 ·exact h4
theorem yOf_mono{a b:Int}(h:a≤b):yOf a≤yOf b:=by unfold yOf;omega
theorem ny_2001:ny 2001=730500:=by decide
theorem num_cum(y:Int)(k:Nat)(d:Int):num y (k+1) d=ny y+d-1+cum y k:=by
 unfold num;rw[show((k:Int)+1-1).toNat=k by omega]
end Go.Proofs.YtihcmhmanfobcaaGreatDoor
