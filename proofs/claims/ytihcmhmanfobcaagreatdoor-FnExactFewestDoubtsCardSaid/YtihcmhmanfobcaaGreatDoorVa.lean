/- Ranges and names: the program's and the reference's tests compute the same plain functions. -/
import Derived.Test.YtihcmhmanfobcaaGreatDoorProg
import Derived.Test.YtihcmhmanfobcaaGreatDoorLib
import Derived.Test.YtihcmhmanfobcaaGreatDoorShelf
import Derived.Laws.CopyOwn
import Derived.StillTailTactics
set_option maxHeartbeats 8000000
set_option maxRecDepth 100000
namespace Go.Proofs.YtihcmhmanfobcaaGreatDoor
open Go.RowKit Go.Sort
def inB(n lo hi:Int):Bool:=decide (lo≤n) && decide (n≤hi)
theorem inB_iff{n lo hi:Int}:inB n lo hi=true ↔ lo≤n∧n≤hi:=by simp[inB]
theorem l01In_any(n lo hi:Int)(w:World) :
 Calls Tryz.prog 49 #[.int .i64 n,.int .i64 lo,.int .i64 hi] w fun e w'=>e=.returned (.bool (inB n lo hi))∧w=w':=by
 go_enter Tryz.func49,Tryz.ntmps49
 go_wp2
 all_goals (go_ret;exact⟨ret_bool (by simp[inB];try omega),rfl⟩)
theorem within_any(n lo hi:Int)(w:World) :
 Calls Tryz.prog 64 #[.int .i64 n,.int .i64 lo,.int .i64 hi] w fun e w'=>e=.returned (.bool (inB n lo hi))∧w=w':=by
 go_enter Tryz.func64,Tryz.ntmps64
 go_wp2
 all_goals (go_ret;exact⟨ret_bool (by simp[inB];try omega),rfl⟩)
def dayB(n:Int):Bool:=inB n 0 730499
theorem l01Day_any(n:Int)(w:World) :
 Calls Tryz.prog 224 #[.int .i64 n] w fun e w'=>e=.returned (.bool (dayB n))∧w=w':=by
 go_enter Tryz.func224,Tryz.ntmps224
 go_wp2_with (go_at_call 49;refine(l01In_any _ _ _ _).mono ?_;rintro e w' ⟨rfl,rfl⟩)
 go_ret;exact⟨rfl,rfl⟩
theorem isDay_any(n:Int)(w:World) :
 Calls Tryz.prog 203 #[.int .i64 n] w fun e w'=>e=.returned (.bool (dayB n))∧w=w':=by
 go_enter Tryz.func203,Tryz.ntmps203
 go_wp2_with (go_at_call 64;refine(within_any _ _ _ _).mono ?_;rintro e w' ⟨rfl,rfl⟩)
 go_ret;exact⟨rfl,rfl⟩
def lowB(c:UInt8):Bool:=decide (97≤c.toNat) && decide (c.toNat≤122)
def nameB(s:ByteArray)(most:Int):Bool:=s.data.toList.all lowB && (decide (1≤s.size) && decide ((s.size:Int)≤most))
theorem nameB_a{s:ByteArray}{m:Int}{k:Nat}{c:UInt8}(hc:s.data.toList[k]?=some c)(h:lowB c=false):nameB s m=false:=by
 have:s.data.toList.all lowB=false:=by
  rw[List.all_eq_false];exact⟨c,List.mem_of_getElem? hc,by simp[h]⟩
 simp[nameB,this]
theorem nameB_b{s:ByteArray}{m:Int}(hc:s.data.toList.all lowB=true):nameB s m=(decide (1≤s.size) && decide ((s.size:Int)≤m)):=by
 simp[nameB,hc]
theorem l01Name_any(s:ByteArray)(m:Int)(w:World)(hs:s.size≤maxLen) :
 Calls Tryz.prog 182 #[.string s,.int .i64 m] w fun e w'=>e=.returned (.bool (nameB s m))∧w=w':=by
 unfold maxLen at hs
 go_enter Tryz.func182,Tryz.ntmps182
 go_wp2;go_loop [5] (fun i=>∃k:Nat,k≤s.size∧i=.int .i64 k∧∀j c,j<k→s.data.toList[j]?=some c→lowB c=true) (fun i=>s.size-(intOf i).toNat)
 case atStart=>exact⟨0,Nat.zero_le _,rfl,fun j c h=>absurd h (by omega)⟩
 case round =>
  obtain⟨k,hk,rfl,ha⟩:=hrel
  have HA:=qh ha
  clear ha;by_cases hlt:k<s.size
  ·have hc:s.data.toList[k]?=some s[k]:=by rw[List.getElem?_eq_getElem (by simpa using hlt)];rfl
   have HC:=qh hc
   clear hc;go_wp2
   ·have h1:(s[k].toNat:Int)<97∨122<(s[k].toNat:Int):=by assumption
    go_ret;exact⟨ret_bool (nameB_a HC.out (by rcases h1 with h1|h1<;>simp[lowB]<;>omega)).symm,rfl⟩
   ·have h1:97≤(s[k].toNat:Int)∧(s[k].toNat:Int)≤122:=by assumption
    go_round
    case rel=>exact⟨k+1,by omega,by go_num,fun j c hj hc=>by
     rcases Nat.lt_or_ge j k with h|h
     ·exact HA.out j c h hc
     ·obtain rfl:j=k:=by omega
      rw[HC.out]at hc;cases hc
      simp[lowB];omega⟩
    case measure=>simp[intOf];omega
   ·have h1:(s[k].toNat:Int)<97:=by assumption
    go_ret;exact⟨ret_bool (nameB_a HC.out (by simp[lowB];omega)).symm,rfl⟩
  ·have hall:s.data.toList.all lowB=true:=by
    rw[List.all_eq_true];intro c hc
    obtain⟨j,hj,e⟩:=List.getElem_of_mem hc
    exact HA.out j c (by simp at hj;omega) (by rw[List.getElem?_eq_getElem hj,e])
   have HL:=qh hall
   clear hall;go_wp2
   all_goals (go_ret;exact⟨ret_bool (by rw[nameB_b HL.out];simp;try omega),rfl⟩)
def alphabet:ByteArray:=⟨#[97,98,99,100,101,102,103,104,105,106,107,108,109,110,111,112,113,114,115,116,117,118,119,120,121,122]⟩
theorem alpha_low(c:UInt8):alphabet.data.toList.contains c=lowB c:=by
 have h:∀n,n<256→alphabet.data.toList.contains (UInt8.ofNat n)=lowB (UInt8.ofNat n):=by decide +kernel
 have:=h c.toNat c.toNat_lt
 rwa [UInt8.ofNat_toNat]at this
theorem dropWhile_empty{α:Type}(p:α→Bool)(l:List α):(l.dropWhile p).isEmpty=l.all p:=by
 induction l with
 | nil=>rfl
 | cons x l ih=>by_cases h:p x=true<;>simp[h,ih]
theorem dropWhile_all{α:Type}(p:α→Bool)(l:List α):(l.dropWhile p).all p=l.all p:=by
 induction l with
 | nil=>rfl
 | cons x l ih=>by_cases h:p x=true<;>simp[h,ih]
theorem trim_empty(s:ByteArray):(⟨(Lib.trimS s.data.toList alphabet.data.toList).toArray⟩:ByteArray).toList.isEmpty=s.data.toList.all lowB:=by
 have e:(alphabet.data.toList.contains ·)=lowB:=funext alpha_low
 rw[ByteArray.toList_mk];unfold Lib.trimS Lib.trimLeftS Lib.trimRightS
 rw[e,dropWhile_empty,List.all_reverse,dropWhile_all,List.all_reverse]
theorem isSmall_any(s:ByteArray)(m:Int)(w:World)(hs:s.size≤maxLen) :
 Calls Tryz.prog 196 #[.string s,.int .i64 m] w fun e w'=>e=.returned (.bool (nameB s m))∧Up w w':=by
 unfold maxLen at hs
 have hT:=fun wx=>Tryz.strings_Trim_ascii s alphabet wx (by omega) (by decide) (ascii_of_all (by decide))
 have ht:=trim_empty s
 generalize (⟨(Lib.trimS s.data.toList alphabet.data.toList).toArray⟩:ByteArray)=r at hT ht
 have HT:=qh hT
 have H2:=qh ht
 clear hT ht;go_enter Tryz.func196,Tryz.ntmps196
 go_wp2_with (go_at_call 240;refine(HT.out _).mono ?_;rintro e w' ⟨rfl,hup⟩)
 all_goals (go_ret;refine⟨ret_bool ?_,by first|assumption|exact Up.refl _⟩;simp only[nameB,← H2.out])
 ·simp;omega
 ·simp;omega
 ·simp;omega
end Go.Proofs.YtihcmhmanfobcaaGreatDoor
namespace Go.Proofs.YtihcmhmanfobcaaGreatDoor
structure I3 where
 a:Int
 b:Int
 d:Int
 deriving DecidableEq
def Fit(w:I3)(i j:Nat):Prop:=(w.a=i∧w.b=j)∨(w.b=i∧w.a=j)
instance (w:I3) (i j:Nat):Decidable (Fit w i j):=by unfold Fit;exact inferInstance
theorem Fit.symm{w:I3}{i j:Nat}(h:Fit w i j):Fit w j i:=by unfold Fit at *;omega
def w0s(ws:List I3)(i j:Nat)(x:Int):Int:=ws.foldl (fun x w=>if Fit w i j then min x w.d else x) x
def w0(ws:List I3)(i j:Nat):Int:=w0s ws i j (if i=j then 0 else 1000000)
def fw(ws:List I3):Nat→Nat→Nat→Int
 | 0,i,j=>w0 ws i j
 | k+1,i,j=>min (fw ws k i j) (fw ws k i k+fw ws k k j)
def WaysOk(ws:List I3)(n:Nat):Prop:=∀w∈ws,0≤w.a∧w.a<n∧0≤w.b∧w.b<n∧w.a≠w.b∧1≤w.d∧w.d≤60
theorem w0s_le:∀(ws:List I3) (i j:Nat) (x:Int),w0s ws i j x≤x
 | [],_,_,_=>Int.le_refl _
 | w :: ws,i,j,x=>by
   have h1:=w0s_le ws i j (if Fit w i j then min x w.d else x)
   have h2:(if Fit w i j then min x w.d else x)≤x:=by split<;>omega
   show w0s ws i j (if Fit w i j then min x w.d else x)≤x
   omega
theorem w0s_edge:∀(ws:List I3) (i j:Nat) (x:Int),∀w∈ws,Fit w i j→w0s ws i j x≤w.d
 | [],_,_,_,w,h,_=>by simp at h
 | v :: ws,i,j,x,w,h,hf=>by
   show w0s ws i j (if Fit v i j then min x v.d else x)≤w.d
   rcases List.mem_cons.1 h with rfl|h
   ·have:=w0s_le ws i j (if Fit w i j then min x w.d else x)
    rw[if_pos hf]at this ⊢;omega
   ·exact w0s_edge ws i j _ w h hf
theorem w0s_or:∀(ws:List I3) (i j:Nat) (x:Int),w0s ws i j x=x∨∃w∈ws,Fit w i j∧w0s ws i j x=w.d
 | [],_,_,_=>.inl rfl
 | v :: ws,i,j,x=>by
   have e:w0s (v :: ws) i j x=w0s ws i j (if Fit v i j then min x v.d else x):=rfl
   rw[e];rcases w0s_or ws i j (if Fit v i j then min x v.d else x) with h|⟨w,hw,hf,h⟩
   ·rw[h]
    by_cases hv:Fit v i j
    ·rw[if_pos hv]
     rcases Int.le_total x v.d with h1|h1
     ·exact .inl (by omega)
     ·exact .inr ⟨v,by simp,hv,by omega⟩
    ·rw[if_neg hv];exact .inl rfl
   ·exact .inr ⟨w,by simp[hw],hf,h⟩
theorem w0_diag{ws:List I3}{n:Nat}(h:WaysOk ws n)(i:Nat):w0 ws i i=0:=by
 unfold w0;rw[if_pos rfl]
 rcases w0s_or ws i i 0 with h1|⟨w,hw,hf,_⟩
 ·exact h1
 ·have:=h w hw;unfold Fit at hf;omega
theorem w0_bd{ws:List I3}{n:Nat}(h:WaysOk ws n)(i j:Nat):0≤w0 ws i j∧w0 ws i j≤1000000:=by
 unfold w0
 have h1:=w0s_le ws i j (if i=j then 0 else 1000000)
 rcases w0s_or ws i j (if i=j then 0 else 1000000) with h2|⟨w,hw,hf,h2⟩
 ·rw[h2];split<;>omega
 ·have:=h w hw;rw[h2];omega
theorem fw_bd{ws:List I3}{n:Nat}(h:WaysOk ws n):∀(k i j:Nat),0≤fw ws k i j∧fw ws k i j≤1000000
 | 0,i,j=>w0_bd h i j
 | k+1,i,j=>by
   have h1:=fw_bd h k i j;have h2:=fw_bd h k i k;have h3:=fw_bd h k k j
   simp only[fw];omega
theorem fw_diag{ws:List I3}{n:Nat}(h:WaysOk ws n):∀(k i:Nat),fw ws k i i=0
 | 0,i=>w0_diag h i
 | k+1,i=>by
   have h1:=fw_diag h k i;have h2:=fw_bd h k i k;have h3:=fw_bd h k k i
   simp only[fw];omega
theorem fw_row{ws:List I3}{n:Nat}(h:WaysOk ws n)(k j:Nat):fw ws (k+1) k j=fw ws k k j:=by
 have h1:=fw_diag h k k;have h3:=fw_bd h k k j
 simp only[fw];omega
theorem fw_col{ws:List I3}{n:Nat}(h:WaysOk ws n)(k i:Nat):fw ws (k+1) i k=fw ws k i k:=by
 have h1:=fw_diag h k k;have h3:=fw_bd h k i k
 simp only[fw];omega
theorem fw_down(ws:List I3):∀(k i j:Nat),fw ws k i j≤w0 ws i j
 | 0,i,j=>Int.le_refl _
 | k+1,i,j=>by have:=fw_down ws k i j;simp only[fw];omega
theorem fw_tri{ws:List I3}{n:Nat}(h:WaysOk ws n):∀(k m i j:Nat),m<k→fw ws k i j≤fw ws k i m+fw ws k m j
 | 0,m,i,j,hm=>absurd hm (by omega)
 | k+1,m,i,j,hm=>by
   rcases Nat.lt_or_ge m k with h1|h1
   ·have a1:=fw_tri h k m i j h1;have a2:=fw_tri h k m i k h1;have a3:=fw_tri h k m k j h1
    have b1:=fw_bd h k k m;have b2:=fw_bd h k m k
    simp only[fw];omega
   ·obtain rfl:m=k:=by omega
    rw[fw_row h,fw_col h];simp only[fw];omega
inductive Path (ws:List I3) (a:Nat):Nat→Int→Prop
 | nil:Path ws a a 0
 | step {b c:Nat} {t:Int} {w:I3} (h:Path ws a b t) (hw:w∈ws) (hf:Fit w b c):Path ws a c (t+w.d)
theorem Path.trans{ws:List I3}{a b c:Nat}{s t:Int}(h:Path ws a b s)(k:Path ws b c t):Path ws a c (s+t):=by
 induction k with
 | nil=>rw[Int.add_zero];exact h
 | step k hw hf ih=>rw[← Int.add_assoc];exact ih.step hw hf
theorem fw_path{ws:List I3}{n:Nat}(h:WaysOk ws n):∀(k i j:Nat),fw ws k i j=1000000∨Path ws i j (fw ws k i j)
 | 0,i,j=>by
   show w0 ws i j=1000000∨Path ws i j (w0 ws i j)
   unfold w0
   rcases w0s_or ws i j (if i=j then 0 else 1000000) with h2|⟨w,hw,hf,h2⟩
   ·rw[h2]
    by_cases e:i=j
    ·subst e;rw[if_pos rfl];exact .inr .nil
    ·rw[if_neg e];exact .inl rfl
   ·rw[h2];refine .inr ?_
    have:=Path.step (a:=i) .nil hw hf
    rwa [Int.zero_add]at this
 | k+1,i,j=>by
   have b1:=fw_bd h k i j;have b2:=fw_bd h k i k;have b3:=fw_bd h k k j
   simp only[fw]
   rcases Int.le_total (fw ws k i j) (fw ws k i k+fw ws k k j) with h1|h1
   ·rw[Int.min_eq_left h1];exact fw_path h k i j
   ·rw[Int.min_eq_right h1]
    rcases fw_path h k i k with p|p
    ·exact .inl (by omega)
    ·rcases fw_path h k k j with q|q
     ·exact .inl (by omega)
     ·exact .inr (p.trans q)
theorem Path.lt{ws:List I3}{n a b:Nat}{t:Int}(h:WaysOk ws n)(ha:a<n)(p:Path ws a b t):b<n∧0≤t:=by
 induction p with
 | nil=>exact⟨ha,Int.le_refl _⟩
 | step p hw hf ih=>have:=h _ hw;unfold Fit at hf;omega
theorem fw_le{ws:List I3}{n a b:Nat}{t:Int}(h:WaysOk ws n)(ha:a<n)(p:Path ws a b t):fw ws n a b≤t:=by
 induction p with
 | nil=>rw[fw_diag h];omega
 | @step b c t w p hw hf ih =>
   have h1:=fw_tri h n b a c (p.lt h ha).1
   have h2:=fw_down ws n b c
   have h3:=w0s_edge ws b c (if b=c then 0 else 1000000) w hw hf
   unfold w0 at h2;omega
def rlx(r:List Int)(x y:Nat)(d:Int):List Int:=if 0≤r.getD x 0∧(r.getD y 0<0∨r.getD x 0+d<r.getD y 0) then r.set y (r.getD x 0+d) else r
def bfW(r:List Int)(w:I3):List Int:=rlx (rlx r w.a.toNat w.b.toNat w.d) w.b.toNat w.a.toNat w.d
def bfR(ws:List I3)(r:List Int):List Int:=ws.foldl bfW r
def bfN(ws:List I3)(n a:Nat):Nat→List Int
 | 0=>(List.replicate n (-1)).set a 0
 | k+1=>bfR ws (bfN ws n a k)
def bf(ws:List I3)(n a:Nat):List Int:=bfN ws n a n
theorem rlx_len(r:List Int)(x y:Nat)(d:Int):(rlx r x y d).length=r.length:=by unfold rlx;split<;>simp
theorem bfW_len(r:List Int)(w:I3):(bfW r w).length=r.length:=by simp[bfW,rlx_len]
theorem bfR_len:∀(ws:List I3) (r:List Int),(bfR ws r).length=r.length
 | [],r=>rfl
 | w :: ws,r=>by show(bfR ws (bfW r w)).length=_;rw[bfR_len ws,bfW_len]
theorem bfN_len(ws:List I3)(n a:Nat):∀k,(bfN ws n a k).length=n
 | 0=>by simp[bfN]
 | k+1=>by simp[bfN,bfR_len,bfN_len ws n a k]
def Le(x t:Int):Prop:=0≤x∧x≤t
def Dn(r s:List Int):Prop:=∀y t,y<r.length→Le (r.getD y 0) t→Le (s.getD y 0) t
theorem Dn.refl(r:List Int):Dn r r:=fun _ _ _ h=>h
theorem set_getD(r:List Int)(y z:Nat)(v:Int)(hy:y<r.length):(r.set y v).getD z 0=if z=y then v else r.getD z 0:=by
 rw[List.getD_eq_getElem?_getD,List.getElem?_set,List.getD_eq_getElem?_getD];by_cases h:z=y
 ·subst h;simp[hy]
 ·rw[if_neg (fun e=>h e.symm),if_neg h]
theorem rlx_dn(r:List Int)(x y:Nat)(d:Int)(hd:0≤d)(hy:y<r.length):Dn r (rlx r x y d):=by
 intro z t hz h
 unfold rlx;split
 ·rename_i c
  rw[set_getD r y z _ hy];split
  ·subst z;unfold Le at *;omega
  ·exact h
 ·exact h
theorem rlx_edge(r:List Int)(x y:Nat)(d t:Int)(hd:0≤d)(hy:y<r.length)(h:Le (r.getD x 0) t):Le ((rlx r x y d).getD y 0) (t+d):=by
 unfold rlx Le at *;split
 ·rw[set_getD r y y _ hy,if_pos rfl];omega
 ·omega
theorem bfW_dn{r:List Int}{w:I3}{n:Nat}(hw:0≤w.a∧w.a<n∧0≤w.b∧w.b<n∧w.a≠w.b∧1≤w.d∧w.d≤60)(hr:r.length=n):Dn r (bfW r w):=by
 intro z t hz h
 exact rlx_dn _ _ _ _ (by omega) (by rw[rlx_len];omega) z t (by rw[rlx_len];exact hz) (rlx_dn _ _ _ _ (by omega) (by omega) z t hz h)
theorem bfW_edge{r:List Int}{w:I3}{n b c:Nat}{t:Int}(hw:0≤w.a∧w.a<n∧0≤w.b∧w.b<n∧w.a≠w.b∧1≤w.d∧w.d≤60)(hr:r.length=n)(hf:Fit w b c)(h:Le (r.getD b 0) t):Le ((bfW r w).getD c 0) (t+w.d):=by
 unfold Fit at hf
 unfold bfW
 rcases hf with⟨h1,h2⟩|⟨h1,h2⟩
 ·have e1:w.a.toNat=b:=by omega
  have e2:w.b.toNat=c:=by omega
  rw[e1,e2];exact rlx_dn _ _ _ _ (by omega) (by rw[rlx_len];omega) _ _ (by rw[rlx_len];omega) (rlx_edge _ _ _ _ _ (by omega) (by omega) h)
 ·have e1:w.a.toNat=c:=by omega
  have e2:w.b.toNat=b:=by omega
  rw[e1,e2];exact rlx_edge _ _ _ _ _ (by omega) (by rw[rlx_len];omega) (rlx_dn _ _ _ _ (by omega) (by omega) _ _ (by omega) h)
theorem bfR_dn{n:Nat}:∀(ws:List I3) (r:List Int),WaysOk ws n→r.length=n→Dn r (bfR ws r)
 | [],r,_,_=>Dn.refl r
 | w :: ws,r,h,hr=>fun z t hz h1=>bfR_dn ws (bfW r w) (fun v hv=>h v (by simp[hv])) (by rw[bfW_len];exact hr) z t (by rw[bfW_len];exact hz) (bfW_dn (h w (by simp)) hr z t hz h1)
theorem bfR_edge{n b c:Nat}{t:Int}{w:I3}:∀(ws:List I3) (r:List Int),WaysOk ws n→r.length=n→w∈ws→Fit w b c→b<n→c<n→Le (r.getD b 0) t→Le ((bfR ws r).getD c 0) (t+w.d)
 | [],r,_,_,hw,_,_,_,_=>by simp at hw
 | v :: ws,r,h,hr,hw,hf,hb,hc,h1=>by
   show Le ((bfR ws (bfW r v)).getD c 0) (t+w.d)
   have h':WaysOk ws n:=fun v hv=>h v (by simp[hv])
   rcases List.mem_cons.1 hw with rfl|hw
   ·exact bfR_dn ws _ h' (by rw[bfW_len];exact hr) _ _ (by rw[bfW_len];omega) (bfW_edge (h w (by simp)) hr hf h1)
   ·exact bfR_edge ws _ h' (by rw[bfW_len];exact hr) hw hf hb hc (bfW_dn (h v (by simp)) hr _ _ (by omega) h1)
def Snd(ws:List I3)(a:Nat)(r:List Int):Prop:=∀y,y<r.length→r.getD y 0=-1∨0≤r.getD y 0∧Path ws a y (r.getD y 0)
theorem rlx_snd{ws:List I3}{a x y:Nat}{r:List Int}{w:I3}(h:Snd ws a r)(hw:w∈ws)(hf:Fit w x y)(hd:0≤w.d)(hx:x<r.length)(hy:y<r.length):Snd ws a (rlx r x y w.d):=by
 intro z hz
 rw[rlx_len]at hz;unfold rlx;split
 ·rename_i c
  rw[set_getD r y z _ hy];split
  ·subst z
   rcases h x hx with h1|⟨_,h1⟩
   ·omega
   ·exact .inr ⟨by omega,h1.step hw hf⟩
  ·exact h z hz
 ·exact h z hz
theorem bfR_snd{vs:List I3}{n a:Nat}:∀(ws:List I3) (r:List Int),(∀w∈ws,w∈vs)→WaysOk ws n→r.length=n→Snd vs a r→Snd vs a (bfR ws r)
 | [],r,_,_,_,h=>h
 | w :: ws,r,hv,h,hr,hs=>by
   have h1:=h w (by simp)
   refine bfR_snd ws (bfW r w) (fun v hv'=>hv v (by simp[hv'])) (fun v hv=>h v (by simp[hv])) (by rw[bfW_len];exact hr) ?_
   exact rlx_snd (rlx_snd hs (hv w (by simp)) (by unfold Fit;omega) (by omega) (by omega) (by omega)) (hv w (by simp)) (by unfold Fit;omega) (by omega) (by rw[rlx_len];omega) (by rw[rlx_len];omega)
theorem bfN_snd{ws:List I3}{n a:Nat}(h:WaysOk ws n)(ha:a<n):∀k,Snd ws a (bfN ws n a k)
 | 0=>by
   intro y hy
   rw[bfN_len]at hy;unfold bfN
   rw[set_getD _ _ _ _ (by simpa using ha)]
   split
   ·subst y;exact .inr ⟨Int.le_refl _,.nil⟩
   ·left;rw[List.getD_eq_getElem?_getD,List.getElem?_replicate,if_pos hy];rfl
 | k+1=>bfR_snd ws _ (fun _ h=>h) h (bfN_len ws n a k) (bfN_snd h ha k)
def nr(ws:List I3)(n a b:Nat):Nat:=(List.range n).countP fun v=>decide (fw ws n a v<fw ws n a b)
theorem countP_lt{α:Type}{p q:α→Bool}:∀(l:List α),(∀x∈l,p x=true→q x=true)→(∃x∈l,q x=true∧p x=false)→l.countP p<l.countP q
 | [],_,⟨x,hx,_⟩=>by simp at hx
 | y :: l,h,⟨x,hx,hq,hp⟩=>by
   have hm:l.countP p≤l.countP q:=List.countP_mono_left (fun z hz=>h z (by simp[hz]))
   have hy:=h y (by simp)
   rw[List.countP_cons,List.countP_cons];rcases List.mem_cons.1 hx with rfl|hx
   ·rw[hq,hp];simp;omega
   ·have:=countP_lt l (fun z hz=>h z (by simp[hz])) ⟨x,hx,hq,hp⟩
    rcases hpy:p y with _|_
    ·simp;split<;>omega
    ·rw[hy hpy];omega
theorem nr_lt{ws:List I3}{n a b c:Nat}(hb:b<n)(h:fw ws n a b<fw ws n a c):nr ws n a b<nr ws n a c:=by
 refine countP_lt _ (fun x _ hx=>?_) ⟨b,by simpa using hb,by simpa using h,by simp⟩
 simp only[decide_eq_true_eq]at *;omega
theorem nr_n{ws:List I3}{n a b:Nat}(hb:b<n):nr ws n a b<n:=by
 have h1:nr ws n a b<(List.range n).countP (fun _=>true):=countP_lt _ (fun _ _ _=>rfl) ⟨b,by simpa using hb,rfl,by simp⟩
 rw[List.countP_true]at h1;simpa using h1
theorem bfN_done{ws:List I3}{n a:Nat}(h:WaysOk ws n)(ha:a<n):∀(k b:Nat),b<n→fw ws n a b<1000000→nr ws n a b≤k→Le ((bfN ws n a k).getD b 0) (fw ws n a b)
 | k,b,hb,hr,hk=>by
   rcases fw_path h n a b with p|p
   ·omega
   ·generalize ht:fw ws n a b=t at p
    cases p with
    | nil =>
      have h0:∀k,Le ((bfN ws n a k).getD a 0) 0:=by
       intro k
       induction k with
       | zero=>unfold bfN;rw[set_getD _ _ _ _ (by simpa using ha),if_pos rfl];exact⟨Int.le_refl _,Int.le_refl _⟩
       | succ k ih=>exact bfR_dn ws _ h (bfN_len ws n a k) _ _ (by rw[bfN_len];exact ha) ih
      exact h0 k
    | @step v _ s w p hw hf =>
      have hv:=(p.lt h ha).1
      have hd:=h w hw
      have e1:=fw_le h ha p
      have e2:=fw_tri h n v a b hv
      have e3:=fw_down ws n v b
      have e4:=w0s_edge ws v b (if v=b then 0 else 1000000) w hw hf
      unfold w0 at e3
      have e5:fw ws n a v=s:=by omega
      have hlt:nr ws n a v<nr ws n a b:=nr_lt hv (by omega)
      match k,hk with
      | 0,hk=>omega
      | k+1,hk =>
        have:=bfN_done h ha k v hv (by omega) (by omega)
        rw[e5]at this;exact bfR_edge ws _ h (bfN_len ws n a k) hw hf hv hb this
def Bd(r:List Int)(m:Int):Prop:=∀y,r.getD y 0≤m
theorem rlx_bd{r:List Int}{x y:Nat}{d m:Int}(h:Bd r m)(_hm:0≤m)(h0:0≤d)(hd:d≤60):Bd (rlx r x y d) (m+60):=by
 intro z
 have h1:=h z;have h2:=h x
 unfold rlx;split
 ·rw[List.getD_eq_getElem?_getD,List.getElem?_set]
  split
  ·split
   ·simp only[Option.getD_some];omega
   ·simp only[Option.getD_none];omega
  ·rw[← List.getD_eq_getElem?_getD];omega
 ·omega
theorem bfW_bd{r:List Int}{w:I3}{m:Int}(h:Bd r m)(hm:0≤m)(h0:0≤w.d)(hd:w.d≤60):Bd (bfW r w) (m+120):=by
 have:=rlx_bd (x:=w.b.toNat) (y:=w.a.toNat) (rlx_bd (x:=w.a.toNat) (y:=w.b.toNat) h hm h0 hd) (by omega) h0 hd
 intro y;have:=this y;unfold bfW;omega
theorem bfR_bd{n:Nat}:∀(ws:List I3) (r:List Int) (m:Int),WaysOk ws n→Bd r m→0≤m→Bd (bfR ws r) (m+120*ws.length)
 | [],r,m,_,h,_=>fun y=>by have:=h y;simp[bfR];exact this
 | w :: ws,r,m,hw,h,hm=>by
   have h1:=hw w (by simp)
   have:=bfR_bd ws (bfW r w) (m+120) (fun v hv=>hw v (by simp[hv])) (bfW_bd h hm (by omega) (by omega)) (by omega)
   intro y;have:=this y
   show(bfR ws (bfW r w)).getD y 0≤_
   rw[List.length_cons];omega
theorem bfN_bd{ws:List I3}{n a:Nat}(h:WaysOk ws n)(hl:ws.length≤40):∀k,Bd (bfN ws n a k) (4800*k)
 | 0=>by
   intro y
   unfold bfN
   rw[List.getD_eq_getElem?_getD,List.getElem?_set];split
   ·split<;>simp
   ·rw[List.getElem?_replicate];split<;>simp
 | k+1=>by
   have:=bfR_bd ws _ _ h (bfN_bd (a:=a) h hl k) (by omega)
   intro y;have:=this y
   show(bfR ws (bfN ws n a k)).getD y 0≤_
   omega
theorem bf_fw{ws:List I3}{n a b:Nat}(h:WaysOk ws n)(hl:ws.length≤40)(hn:n≤12)(ha:a<n)(hb:b<n) :
 ((bf ws n a).getD b 0<0∧fw ws n a b=1000000)∨(0≤(bf ws n a).getD b 0∧(bf ws n a).getD b 0=fw ws n a b∧fw ws n a b<1000000):=by
 have hbd:=fw_bd h n a b
 rcases bfN_snd h ha n b (by rw[bfN_len];exact hb) with h1|⟨h1,p⟩
 ·left
  refine⟨by unfold bf;omega,?_⟩
  by_cases e:fw ws n a b=1000000
  ·exact e
  ·have:=bfN_done h ha n b hb (by omega) (Nat.le_of_lt (nr_n hb))
   unfold Le at this;omega
 ·right
  have h2:=fw_le h ha p
  have h3:fw ws n a b<1000000:=by
   have:=bfN_bd h hl (a:=a) n b
   omega
  have:=bfN_done h ha n b hb h3 (Nat.le_of_lt (nr_n hb))
  unfold bf Le at *;omega
end Go.Proofs.YtihcmhmanfobcaaGreatDoor
namespace Go.Proofs.YtihcmhmanfobcaaGreatDoor
open Go.RowKit Go.Sort
structure Sl (α:Type) where
 A:Option Addr
 c:Nat
 l:List α
abbrev Sl.val{α:Type}(s:Sl α):Value:=.slice s.A s.l.length s.c
structure Nm where
 nm:ByteArray
 fr:Int
 to_:Int
 deriving DecidableEq
abbrev Nm.cells(d:Nm):List Value:=[.string d.nm,.int .i64 d.fr,.int .i64 d.to_]
abbrev Nm.val(d:Nm):Value:=.agg #[.string d.nm,.int .i64 d.fr,.int .i64 d.to_]
def Nm.ok(d:Nm):Prop:=d.nm.size≤maxLen
theorem Nm.len(d:Nm):d.cells.length=3:=rfl
abbrev RdNm(w:World)(lo hi:Nat)(A:Option Addr)(l:List Nm):Prop:=Rd w lo hi 3 Nm.cells A l
theorem Rd.nm{w:World}{lo hi:Nat}{A:Option Addr}{l:List Nm}(h:RdNm w lo hi A l){k:Nat}(hk:k<l.length) :
 ∃b off d,A=some ⟨b,off,none⟩∧lo≤b∧b<hi∧l[k]?=some d∧w.cell? ⟨b,off+k*3,none⟩=some (.string d.nm)∧w.cell? ⟨b,off+k*3+1,none⟩=some (.int .i64 d.fr)∧w.cell? ⟨b,off+k*3+2,none⟩=some (.int .i64 d.to_):=by
 obtain⟨b,off,d,e,h1,h2,h3,h4⟩:=Rd.at_ h hk
 exact⟨b,off,d,e,h1,h2,h3,h4 0 _ rfl,h4 1 _ rfl,h4 2 _ rfl⟩
structure Tm where
 of_:ByteArray
 pe:ByteArray
 fr:Int
 to_:Int
 deriving DecidableEq
abbrev Tm.cells(d:Tm):List Value:=[.string d.of_,.string d.pe,.int .i64 d.fr,.int .i64 d.to_]
abbrev Tm.val(d:Tm):Value:=.agg #[.string d.of_,.string d.pe,.int .i64 d.fr,.int .i64 d.to_]
def Tm.ok(d:Tm):Prop:=d.of_.size≤maxLen∧d.pe.size≤maxLen
theorem Tm.len(d:Tm):d.cells.length=4:=rfl
abbrev RdTm(w:World)(lo hi:Nat)(A:Option Addr)(l:List Tm):Prop:=Rd w lo hi 4 Tm.cells A l
theorem Rd.tm{w:World}{lo hi:Nat}{A:Option Addr}{l:List Tm}(h:RdTm w lo hi A l){k:Nat}(hk:k<l.length) :
 ∃b off d,A=some ⟨b,off,none⟩∧lo≤b∧b<hi∧l[k]?=some d∧w.cell? ⟨b,off+k*4,none⟩=some (.string d.of_)∧w.cell? ⟨b,off+k*4+1,none⟩=some (.string d.pe)∧w.cell? ⟨b,off+k*4+2,none⟩=some (.int .i64 d.fr)∧w.cell? ⟨b,off+k*4+3,none⟩=some (.int .i64 d.to_):=by
 obtain⟨b,off,d,e,h1,h2,h3,h4⟩:=Rd.at_ h hk
 exact⟨b,off,d,e,h1,h2,h3,h4 0 _ rfl,h4 1 _ rfl,h4 2 _ rfl,h4 3 _ rfl⟩
abbrev I3.cells(d:I3):List Value:=[.int .i64 d.a,.int .i64 d.b,.int .i64 d.d]
abbrev I3.val(d:I3):Value:=.agg #[.int .i64 d.a,.int .i64 d.b,.int .i64 d.d]
def I3.ok(_d:I3):Prop:=True
theorem I3.len(d:I3):d.cells.length=3:=rfl
abbrev RdI3(w:World)(lo hi:Nat)(A:Option Addr)(l:List I3):Prop:=Rd w lo hi 3 I3.cells A l
theorem Rd.i3{w:World}{lo hi:Nat}{A:Option Addr}{l:List I3}(h:RdI3 w lo hi A l){k:Nat}(hk:k<l.length) :
 ∃b off d,A=some ⟨b,off,none⟩∧lo≤b∧b<hi∧l[k]?=some d∧w.cell? ⟨b,off+k*3,none⟩=some (.int .i64 d.a)∧w.cell? ⟨b,off+k*3+1,none⟩=some (.int .i64 d.b)∧w.cell? ⟨b,off+k*3+2,none⟩=some (.int .i64 d.d):=by
 obtain⟨b,off,d,e,h1,h2,h3,h4⟩:=Rd.at_ h hk
 exact⟨b,off,d,e,h1,h2,h3,h4 0 _ rfl,h4 1 _ rfl,h4 2 _ rfl⟩
structure I4 where
 a:Int
 b:Int
 lo:Int
 mo:Int
 deriving DecidableEq
abbrev I4.cells(d:I4):List Value:=[.int .i64 d.a,.int .i64 d.b,.int .i64 d.lo,.int .i64 d.mo]
abbrev I4.val(d:I4):Value:=.agg #[.int .i64 d.a,.int .i64 d.b,.int .i64 d.lo,.int .i64 d.mo]
def I4.ok(_d:I4):Prop:=True
theorem I4.len(d:I4):d.cells.length=4:=rfl
structure Cl where
 ki:Int
 nu:Int
 mo:Int
 fe:Int
 re_:Int
 wk:Int
 sy:Int
 kg:ByteArray
 deriving DecidableEq
abbrev Cl.cells(d:Cl):List Value:=[.int .i64 d.ki,.int .i64 d.nu,.int .i64 d.mo,.int .i64 d.fe,.int .i64 d.re_,.int .i64 d.wk,.int .i64 d.sy,.string d.kg]
abbrev Cl.val(d:Cl):Value:=.agg #[.int .i64 d.ki,.int .i64 d.nu,.int .i64 d.mo,.int .i64 d.fe,.int .i64 d.re_,.int .i64 d.wk,.int .i64 d.sy,.string d.kg]
def Cl.ok(d:Cl):Prop:=d.kg.size≤maxLen
theorem Cl.len(d:Cl):d.cells.length=8:=rfl
abbrev RdCl(w:World)(lo hi:Nat)(A:Option Addr)(l:List Cl):Prop:=Rd w lo hi 8 Cl.cells A l
theorem Rd.cl{w:World}{lo hi:Nat}{A:Option Addr}{l:List Cl}(h:RdCl w lo hi A l){k:Nat}(hk:k<l.length) :
 ∃b off d,A=some ⟨b,off,none⟩∧lo≤b∧b<hi∧l[k]?=some d∧w.cell? ⟨b,off+k*8,none⟩=some (.int .i64 d.ki)∧w.cell? ⟨b,off+k*8+1,none⟩=some (.int .i64 d.nu)∧w.cell? ⟨b,off+k*8+2,none⟩=some (.int .i64 d.mo)∧w.cell? ⟨b,off+k*8+3,none⟩=some (.int .i64 d.fe)∧w.cell? ⟨b,off+k*8+4,none⟩=some (.int .i64 d.re_)∧w.cell? ⟨b,off+k*8+5,none⟩=some (.int .i64 d.wk)∧w.cell? ⟨b,off+k*8+6,none⟩=some (.int .i64 d.sy)∧w.cell? ⟨b,off+k*8+7,none⟩=some (.string d.kg):=by
 obtain⟨b,off,d,e,h1,h2,h3,h4⟩:=Rd.at_ h hk
 exact⟨b,off,d,e,h1,h2,h3,h4 0 _ rfl,h4 1 _ rfl,h4 2 _ rfl,h4 3 _ rfl,h4 4 _ rfl,h4 5 _ rfl,h4 6 _ rfl,h4 7 _ rfl⟩
structure Wi where
 pe:ByteArray
 of_:ByteArray
 deriving DecidableEq
abbrev Wi.cells(d:Wi):List Value:=[.string d.pe,.string d.of_]
abbrev Wi.val(d:Wi):Value:=.agg #[.string d.pe,.string d.of_]
def Wi.ok(d:Wi):Prop:=d.pe.size≤maxLen∧d.of_.size≤maxLen
theorem Wi.len(d:Wi):d.cells.length=2:=rfl
abbrev RdWi(w:World)(lo hi:Nat)(A:Option Addr)(l:List Wi):Prop:=Rd w lo hi 2 Wi.cells A l
theorem Rd.wi{w:World}{lo hi:Nat}{A:Option Addr}{l:List Wi}(h:RdWi w lo hi A l){k:Nat}(hk:k<l.length) :
 ∃b off d,A=some ⟨b,off,none⟩∧lo≤b∧b<hi∧l[k]?=some d∧w.cell? ⟨b,off+k*2,none⟩=some (.string d.pe)∧w.cell? ⟨b,off+k*2+1,none⟩=some (.string d.of_):=by
 obtain⟨b,off,d,e,h1,h2,h3,h4⟩:=Rd.at_ h hk
 exact⟨b,off,d,e,h1,h2,h3,h4 0 _ rfl,h4 1 _ rfl⟩
structure Sr {α:Type} (f:α→List Value) (n:Nat) (ok:α→Prop) (w:World) (lo hi:Nat) (s:Sl α):Prop where
 rd:Rd w lo hi n f s.A s.l
 hhi:hi≤w.heap.size
 len:s.l.length≤2000000
 ok:∀x∈s.l,ok x
 cap:s.l.length≤s.c∧s.c≤maxLen
theorem own_cap{w:World}{base:Nat}{e:TypeId}{size:Nat}{A:Option Addr}{n c:Nat}{xs:List Value}(h:w.ownsRow base e size (.slice A n c) n xs):n≤c∧c≤maxLen:=by
 obtain⟨A',c',hv,h1,h2,-,-⟩:=own_form h
 simp only[Value.slice.injEq]at hv
 obtain⟨-,-,rfl⟩:=hv
 exact⟨h1,h2⟩
theorem Sr.up{α:Type}{f:α→List Value}{n:Nat}{ok:α→Prop}{w w':World}{lo hi:Nat}{s:Sl α}(h:Sr f n ok w lo hi s)(u:Up w w'):Sr f n ok w' lo hi s :=
 ⟨h.rd.up u h.hhi,Nat.le_trans h.hhi u.size,h.len,h.ok,h.cap⟩
theorem Sr.wide{α:Type}{f:α→List Value}{n:Nat}{ok:α→Prop}{w:World}{lo hi lo' hi':Nat}{s:Sl α}(h:Sr f n ok w lo hi s)(h1:lo'≤lo)(h2:hi≤hi')(h3:hi'≤w.heap.size):Sr f n ok w lo' hi' s :=
 ⟨h.rd.wide h1 h2,h3,h.len,h.ok,h.cap⟩
theorem Sr.own{α:Type}{f:α→List Value}{n:Nat}{ok:α→Prop}{w:World}{base:Nat}{e:TypeId}{s:Sl α}(hf:∀x,(f x).length=n)(h:w.ownsRow base e n s.val s.l.length (s.l.flatMap f))(h1:s.l.length≤2000000)(h2:∀x∈s.l,ok x):Sr f n ok w base w.heap.size s :=
 ⟨Rd.own hf h,Nat.le_refl _,h1,h2,own_cap h⟩
theorem own_sl{α:Type}{f:α→List Value}{n:Nat}{w:World}{base:Nat}{e:TypeId}{v:Value}{l:List α}(h:w.ownsRow base e n v l.length (l.flatMap f)):∃s:Sl α,v=s.val∧s.l=l∧s.l.length≤s.c∧s.c≤maxLen∧w.ownsRow base e n s.val s.l.length (s.l.flatMap f):=by
 obtain⟨A,c,rfl,h1,h2,-,-⟩:=own_form h
 exact⟨⟨A,c,l⟩,rfl,rfl,h1,h2,h⟩
structure Sq {α:Type} (f:α→List Value) (n:Nat) (ok:α→Prop) (w:World) (lo hi:Nat) (s:Sl α):Prop where
 rd:Rd w lo hi n f s.A s.l
 hhi:hi≤w.heap.size
 len:s.l.length≤maxLen
 ok:∀x∈s.l,ok x
 cap:s.l.length≤s.c∧s.c≤maxLen
theorem Sq.up{α:Type}{f:α→List Value}{n:Nat}{ok:α→Prop}{w w':World}{lo hi:Nat}{s:Sl α}(h:Sq f n ok w lo hi s)(u:Up w w'):Sq f n ok w' lo hi s :=
 ⟨h.rd.up u h.hhi,Nat.le_trans h.hhi u.size,h.len,h.ok,h.cap⟩
theorem Sq.sr{α:Type}{f:α→List Value}{n:Nat}{ok:α→Prop}{w:World}{lo hi:Nat}{s:Sl α}(h:Sq f n ok w lo hi s)(k:s.l.length≤2000000):Sr f n ok w lo hi s:=⟨h.rd,h.hhi,k,h.ok,h.cap⟩
abbrev strOk(s:ByteArray):Prop:=s.size≤maxLen
abbrev SrNm:=Sr Nm.cells 3 Nm.ok
abbrev SrTm:=Sr Tm.cells 4 Tm.ok
abbrev SrI3:=Sr I3.cells 3 I3.ok
abbrev SrCl:=Sr Cl.cells 8 Cl.ok
abbrev SrWi:=Sr Wi.cells 2 Wi.ok
abbrev SrSt:=Sr strC 1 strOk
abbrev SqNm:=Sq Nm.cells 3 Nm.ok
abbrev SqTm:=Sq Tm.cells 4 Tm.ok
abbrev SqI3:=Sq I3.cells 3 I3.ok
abbrev SqCl:=Sq Cl.cells 8 Cl.ok
abbrev SqWi:=Sq Wi.cells 2 Wi.ok
abbrev SqSt:=Sq strC 1 strOk
structure Dd where
 nm:ByteArray
 da:Sl Cl
 wi:Sl Wi
 pl:ByteArray
 se:ByteArray
 ha:ByteArray
 ci:Sl ByteArray
structure Pd where
 nm:ByteArray
 da:List Cl
 wi:List Wi
 pl:ByteArray
 se:ByteArray
 ha:ByteArray
 ci:List ByteArray
abbrev Dd.p(d:Dd):Pd:=⟨d.nm,d.da.l,d.wi.l,d.pl,d.se,d.ha,d.ci.l⟩
abbrev Dd.cells(d:Dd):List Value:=[.string d.nm,.slice d.da.A d.da.l.length d.da.c,.slice d.wi.A d.wi.l.length d.wi.c,.string d.pl,.string d.se,.string d.ha,.slice d.ci.A d.ci.l.length d.ci.c]
abbrev Dd.val(d:Dd):Value:=.agg #[.string d.nm,.slice d.da.A d.da.l.length d.da.c,.slice d.wi.A d.wi.l.length d.wi.c,.string d.pl,.string d.se,.string d.ha,.slice d.ci.A d.ci.l.length d.ci.c]
theorem Dd.len(d:Dd):d.cells.length=7:=rfl
structure RdE (w:World) (lo hi:Nat) (d:Dd):Prop where
 nm:d.nm.size≤maxLen
 da:SrCl w lo hi d.da
 wi:SrWi w lo hi d.wi
 pl:d.pl.size≤maxLen
 se:d.se.size≤maxLen
 ha:d.ha.size≤maxLen
 ci:SrSt w lo hi d.ci
theorem RdE.up{w w':World}{lo hi:Nat}{d:Dd}(h:RdE w lo hi d)(u:Up w w'):RdE w' lo hi d:=⟨h.nm,h.da.up u,h.wi.up u,h.pl,h.se,h.ha,h.ci.up u⟩
theorem RdE.wide{w:World}{lo hi lo' hi':Nat}{d:Dd}(h:RdE w lo hi d)(h1:lo'≤lo)(h2:hi≤hi')(h3:hi'≤w.heap.size):RdE w lo' hi' d:=⟨h.nm,h.da.wide h1 h2 h3,h.wi.wide h1 h2 h3,h.pl,h.se,h.ha,h.ci.wide h1 h2 h3⟩
structure RawE (w:World) (lo hi:Nat) (d:Dd):Prop where
 nm:d.nm.size≤maxLen
 da:SqCl w lo hi d.da
 wi:SqWi w lo hi d.wi
 pl:d.pl.size≤maxLen
 se:d.se.size≤maxLen
 ha:d.ha.size≤maxLen
 ci:SqSt w lo hi d.ci
theorem RawE.up{w w':World}{lo hi:Nat}{d:Dd}(h:RawE w lo hi d)(u:Up w w'):RawE w' lo hi d:=⟨h.nm,h.da.up u,h.wi.up u,h.pl,h.se,h.ha,h.ci.up u⟩
def SmE(d:Dd):Prop:=d.da.l.length≤2000000∧d.wi.l.length≤2000000∧d.ci.l.length≤2000000
theorem RawE.rd{w:World}{lo hi:Nat}{d:Dd}(h:RawE w lo hi d)(k:SmE d):RdE w lo hi d:=⟨h.nm,h.da.sr k.1,h.wi.sr k.2.1,h.pl,h.se,h.ha,h.ci.sr k.2.2⟩
structure RawDd (w:World) (lo hi:Nat) (s:Sl Dd):Prop where
 rd:Rd w lo hi 7 Dd.cells s.A s.l
 hhi:hi≤w.heap.size
 len:s.l.length≤maxLen
 each:∀d∈s.l,RawE w lo hi d
 cap:s.l.length≤s.c∧s.c≤maxLen
theorem RawDd.up{w w':World}{lo hi:Nat}{s:Sl Dd}(h:RawDd w lo hi s)(u:Up w w'):RawDd w' lo hi s:=⟨h.rd.up u h.hhi,Nat.le_trans h.hhi u.size,h.len,fun d hd=>(h.each d hd).up u,h.cap⟩
structure RdDd (w:World) (lo hi:Nat) (s:Sl Dd):Prop where
 rd:Rd w lo hi 7 Dd.cells s.A s.l
 hhi:hi≤w.heap.size
 len:s.l.length≤2000000
 each:∀d∈s.l,RdE w lo hi d
 cap:s.l.length≤s.c∧s.c≤maxLen
theorem RdDd.up{w w':World}{lo hi:Nat}{s:Sl Dd}(h:RdDd w lo hi s)(u:Up w w'):RdDd w' lo hi s:=⟨h.rd.up u h.hhi,Nat.le_trans h.hhi u.size,h.len,fun d hd=>(h.each d hd).up u,h.cap⟩
theorem Rd.dd{w:World}{lo hi:Nat}{A:Option Addr}{l:List Dd}(h:Rd w lo hi 7 Dd.cells A l){k:Nat}(hk:k<l.length) :
 ∃b off d,A=some ⟨b,off,none⟩∧lo≤b∧b<hi∧l[k]?=some d∧w.cell? ⟨b,off+k*7,none⟩=some (.string d.nm)∧w.cell? ⟨b,off+k*7+1,none⟩=some (.slice d.da.A d.da.l.length d.da.c)∧w.cell? ⟨b,off+k*7+2,none⟩=some (.slice d.wi.A d.wi.l.length d.wi.c) ∧
  w.cell? ⟨b,off+k*7+3,none⟩=some (.string d.pl)∧w.cell? ⟨b,off+k*7+4,none⟩=some (.string d.se)∧w.cell? ⟨b,off+k*7+5,none⟩=some (.string d.ha)∧w.cell? ⟨b,off+k*7+6,none⟩=some (.slice d.ci.A d.ci.l.length d.ci.c):=by
 obtain⟨b,off,d,e,h1,h2,h3,h4⟩:=Rd.at_ h hk
 exact⟨b,off,d,e,h1,h2,h3,h4 0 _ rfl,h4 1 _ rfl,h4 2 _ rfl,h4 3 _ rfl,h4 4 _ rfl,h4 5 _ rfl,h4 6 _ rfl⟩
structure Wd where
 rs:Sl Nm
 fr:Int
 to_:Int
 ps:Sl Nm
 ts:Sl Tm
 pl:Sl ByteArray
 ws:Sl I3
 st:Sl I3
 se:Sl Nm
 ha:Sl Nm
structure Pw where
 rs:List Nm
 fr:Int
 to_:Int
 ps:List Nm
 ts:List Tm
 pl:List ByteArray
 ws:List I3
 st:List I3
 se:List Nm
 ha:List Nm
abbrev Wd.p(x:Wd):Pw:=⟨x.rs.l,x.fr,x.to_,x.ps.l,x.ts.l,x.pl.l,x.ws.l,x.st.l,x.se.l,x.ha.l⟩
structure RdW (w:World) (lo hi:Nat) (x:Wd):Prop where
 rs:SrNm w lo hi x.rs
 ps:SrNm w lo hi x.ps
 ts:SrTm w lo hi x.ts
 pl:SrSt w lo hi x.pl
 ws:SrI3 w lo hi x.ws
 st:SrI3 w lo hi x.st
 se:SrNm w lo hi x.se
 ha:SrNm w lo hi x.ha
theorem RdW.up{w w':World}{lo hi:Nat}{x:Wd}(h:RdW w lo hi x)(u:Up w w'):RdW w' lo hi x:=⟨h.rs.up u,h.ps.up u,h.ts.up u,h.pl.up u,h.ws.up u,h.st.up u,h.se.up u,h.ha.up u⟩
theorem RdW.wide{w:World}{lo hi lo' hi':Nat}{x:Wd}(h:RdW w lo hi x)(h1:lo'≤lo)(h2:hi≤hi')(h3:hi'≤w.heap.size):RdW w lo' hi' x:=⟨h.rs.wide h1 h2 h3,h.ps.wide h1 h2 h3,h.ts.wide h1 h2 h3,h.pl.wide h1 h2 h3,h.ws.wide h1 h2 h3,h.st.wide h1 h2 h3,h.se.wide h1 h2 h3,h.ha.wide h1 h2 h3⟩
structure RawW (w:World) (lo hi:Nat) (x:Wd):Prop where
 rs:SqNm w lo hi x.rs
 ps:SqNm w lo hi x.ps
 ts:SqTm w lo hi x.ts
 pl:SqSt w lo hi x.pl
 ws:SqI3 w lo hi x.ws
 st:SqI3 w lo hi x.st
 se:SqNm w lo hi x.se
 ha:SqNm w lo hi x.ha
theorem RawW.up{w w':World}{lo hi:Nat}{x:Wd}(h:RawW w lo hi x)(u:Up w w'):RawW w' lo hi x:=⟨h.rs.up u,h.ps.up u,h.ts.up u,h.pl.up u,h.ws.up u,h.st.up u,h.se.up u,h.ha.up u⟩
def SmW(x:Wd):Prop:=x.rs.l.length≤2000000∧(x.ps.l.length≤2000000∧x.ts.l.length≤2000000)∧(x.pl.l.length≤2000000∧x.ws.l.length≤2000000)∧x.st.l.length≤2000000∧x.se.l.length≤2000000∧x.ha.l.length≤2000000
theorem RawW.rd{w:World}{lo hi:Nat}{x:Wd}(h:RawW w lo hi x)(k:SmW x):RdW w lo hi x:=⟨h.rs.sr k.1,h.ps.sr k.2.1.1,h.ts.sr k.2.1.2,h.pl.sr k.2.2.1.1,h.ws.sr k.2.2.1.2,h.st.sr k.2.2.2.1,h.se.sr k.2.2.2.2.1,h.ha.sr k.2.2.2.2.2⟩
abbrev Wd.arr(x:Wd):Array Value:=#[.slice x.rs.A x.rs.l.length x.rs.c,.int .i64 x.fr,.int .i64 x.to_,.slice x.ps.A x.ps.l.length x.ps.c,.slice x.ts.A x.ts.l.length x.ts.c,.slice x.pl.A x.pl.l.length x.pl.c,.slice x.ws.A x.ws.l.length x.ws.c,.slice x.st.A x.st.l.length x.st.c,.slice x.se.A x.se.l.length x.se.c,.slice x.ha.A x.ha.l.length x.ha.c]
abbrev Wd.val(x:Wd):Value:=.agg #[.slice x.rs.A x.rs.l.length x.rs.c,.int .i64 x.fr,.int .i64 x.to_,.slice x.ps.A x.ps.l.length x.ps.c,.slice x.ts.A x.ts.l.length x.ts.c,.slice x.pl.A x.pl.l.length x.pl.c,.slice x.ws.A x.ws.l.length x.ws.c,.slice x.st.A x.st.l.length x.st.c,.slice x.se.A x.se.l.length x.se.c,.slice x.ha.A x.ha.l.length x.ha.c]
end Go.Proofs.YtihcmhmanfobcaaGreatDoor
namespace Go.Proofs.YtihcmhmanfobcaaGreatDoor
open Go.RowKit
def Bx(w:World)(b:Nat)(cs:List Value):Prop:=∀j u,cs[j]?=some u→w.cell? ⟨b,j,none⟩=some u∧w.frozen? ⟨b,j,none⟩=false
theorem Bx.up{w w':World}{b:Nat}{cs:List Value}(h:Bx w b cs)(u:Up w w'):Bx w' b cs:=fun j v hv =>
 ⟨u.cell (h j v hv).1,(Below.frozen u (p:=⟨b,j,none⟩) (block_lt_of_cell (h j v hv).1)).trans (h j v hv).2⟩
theorem Bx.new(w:World)(vs:Array Value)(T:TypeId):Bx (w.alloc (.cells vs T)) w.heap.size vs.toList:=fun j u hu=>by
 have h:vs[j]?=some u:=by rw[← Array.getElem?_toList];exact hu
 constructor<;>go_simp
theorem Bx.put{w:World}{b:Nat}{cs:List Value}(h:Bx w b cs)(j:Nat)(v:Value):Bx (w.setCell ⟨b,j,none⟩ v) b (cs.set j v):=fun i u hu=>by
 rw[List.getElem?_set]at hu;split at hu
 ·subst j
  split at hu
  ·rename_i hi
   obtain⟨h1,h2⟩:=h i _ (List.getElem?_eq_getElem hi)
   cases hu;constructor<;>go_simp
  ·cases hu
 ·rename_i hne
  obtain⟨h1,h2⟩:=h i u hu
  have hne':¬ i=j:=fun e=>hne e.symm
  constructor<;>go_simp
theorem Bx.other{w:World}{b b':Nat}{cs:List Value}(h:Bx w b cs)(hne:b'≠b)(j:Nat)(v:Value):Bx (w.setCell ⟨b',j,none⟩ v) b cs:=fun i u hu=>by
 obtain⟨h1,h2⟩:=h i u hu
 constructor<;>go_simp
theorem Bx.c2{w:World}{b:Nat}{v0 v1:Value}(h:Bx w b [v0,v1]):w.cell? ⟨b,0,none⟩=some v0∧w.cell? ⟨b,1,none⟩=some v1 :=
 ⟨(h 0 _ rfl).1,(h 1 _ rfl).1⟩
theorem Bx.f2{w:World}{b:Nat}{v0 v1:Value}(h:Bx w b [v0,v1]):w.frozen? ⟨b,0,none⟩=false∧w.frozen? ⟨b,1,none⟩=false :=
 ⟨(h 0 _ rfl).2,(h 1 _ rfl).2⟩
theorem Bx.c3{w:World}{b:Nat}{v0 v1 v2:Value}(h:Bx w b [v0,v1,v2]):w.cell? ⟨b,0,none⟩=some v0∧w.cell? ⟨b,1,none⟩=some v1∧w.cell? ⟨b,2,none⟩=some v2 :=
 ⟨(h 0 _ rfl).1,(h 1 _ rfl).1,(h 2 _ rfl).1⟩
theorem Bx.f3{w:World}{b:Nat}{v0 v1 v2:Value}(h:Bx w b [v0,v1,v2]):w.frozen? ⟨b,0,none⟩=false∧w.frozen? ⟨b,1,none⟩=false∧w.frozen? ⟨b,2,none⟩=false :=
 ⟨(h 0 _ rfl).2,(h 1 _ rfl).2,(h 2 _ rfl).2⟩
theorem Bx.c7{w:World}{b:Nat}{v0 v1 v2 v3 v4 v5 v6:Value}(h:Bx w b [v0,v1,v2,v3,v4,v5,v6]):w.cell? ⟨b,0,none⟩=some v0∧w.cell? ⟨b,1,none⟩=some v1∧w.cell? ⟨b,2,none⟩=some v2∧w.cell? ⟨b,3,none⟩=some v3∧w.cell? ⟨b,4,none⟩=some v4∧w.cell? ⟨b,5,none⟩=some v5∧w.cell? ⟨b,6,none⟩=some v6 :=
 ⟨(h 0 _ rfl).1,(h 1 _ rfl).1,(h 2 _ rfl).1,(h 3 _ rfl).1,(h 4 _ rfl).1,(h 5 _ rfl).1,(h 6 _ rfl).1⟩
theorem Bx.f7{w:World}{b:Nat}{v0 v1 v2 v3 v4 v5 v6:Value}(h:Bx w b [v0,v1,v2,v3,v4,v5,v6]):w.frozen? ⟨b,0,none⟩=false∧w.frozen? ⟨b,1,none⟩=false∧w.frozen? ⟨b,2,none⟩=false∧w.frozen? ⟨b,3,none⟩=false∧w.frozen? ⟨b,4,none⟩=false∧w.frozen? ⟨b,5,none⟩=false∧w.frozen? ⟨b,6,none⟩=false :=
 ⟨(h 0 _ rfl).2,(h 1 _ rfl).2,(h 2 _ rfl).2,(h 3 _ rfl).2,(h 4 _ rfl).2,(h 5 _ rfl).2,(h 6 _ rfl).2⟩
theorem Bx.c8{w:World}{b:Nat}{v0 v1 v2 v3 v4 v5 v6 v7:Value}(h:Bx w b [v0,v1,v2,v3,v4,v5,v6,v7]):w.cell? ⟨b,0,none⟩=some v0∧w.cell? ⟨b,1,none⟩=some v1∧w.cell? ⟨b,2,none⟩=some v2∧w.cell? ⟨b,3,none⟩=some v3∧w.cell? ⟨b,4,none⟩=some v4∧w.cell? ⟨b,5,none⟩=some v5∧w.cell? ⟨b,6,none⟩=some v6∧w.cell? ⟨b,7,none⟩=some v7 :=
 ⟨(h 0 _ rfl).1,(h 1 _ rfl).1,(h 2 _ rfl).1,(h 3 _ rfl).1,(h 4 _ rfl).1,(h 5 _ rfl).1,(h 6 _ rfl).1,(h 7 _ rfl).1⟩
theorem Bx.f8{w:World}{b:Nat}{v0 v1 v2 v3 v4 v5 v6 v7:Value}(h:Bx w b [v0,v1,v2,v3,v4,v5,v6,v7]):w.frozen? ⟨b,0,none⟩=false∧w.frozen? ⟨b,1,none⟩=false∧w.frozen? ⟨b,2,none⟩=false∧w.frozen? ⟨b,3,none⟩=false∧w.frozen? ⟨b,4,none⟩=false∧w.frozen? ⟨b,5,none⟩=false∧w.frozen? ⟨b,6,none⟩=false∧w.frozen? ⟨b,7,none⟩=false :=
 ⟨(h 0 _ rfl).2,(h 1 _ rfl).2,(h 2 _ rfl).2,(h 3 _ rfl).2,(h 4 _ rfl).2,(h 5 _ rfl).2,(h 6 _ rfl).2,(h 7 _ rfl).2⟩
theorem Bx.c10{w:World}{b:Nat}{v0 v1 v2 v3 v4 v5 v6 v7 v8 v9:Value}(h:Bx w b [v0,v1,v2,v3,v4,v5,v6,v7,v8,v9]):w.cell? ⟨b,0,none⟩=some v0∧w.cell? ⟨b,1,none⟩=some v1∧w.cell? ⟨b,2,none⟩=some v2∧w.cell? ⟨b,3,none⟩=some v3∧w.cell? ⟨b,4,none⟩=some v4∧w.cell? ⟨b,5,none⟩=some v5∧w.cell? ⟨b,6,none⟩=some v6∧w.cell? ⟨b,7,none⟩=some v7∧w.cell? ⟨b,8,none⟩=some v8∧w.cell? ⟨b,9,none⟩=some v9 :=
 ⟨(h 0 _ rfl).1,(h 1 _ rfl).1,(h 2 _ rfl).1,(h 3 _ rfl).1,(h 4 _ rfl).1,(h 5 _ rfl).1,(h 6 _ rfl).1,(h 7 _ rfl).1,(h 8 _ rfl).1,(h 9 _ rfl).1⟩
theorem Bx.f10{w:World}{b:Nat}{v0 v1 v2 v3 v4 v5 v6 v7 v8 v9:Value}(h:Bx w b [v0,v1,v2,v3,v4,v5,v6,v7,v8,v9]):w.frozen? ⟨b,0,none⟩=false∧w.frozen? ⟨b,1,none⟩=false∧w.frozen? ⟨b,2,none⟩=false∧w.frozen? ⟨b,3,none⟩=false∧w.frozen? ⟨b,4,none⟩=false∧w.frozen? ⟨b,5,none⟩=false∧w.frozen? ⟨b,6,none⟩=false∧w.frozen? ⟨b,7,none⟩=false∧w.frozen? ⟨b,8,none⟩=false∧w.frozen? ⟨b,9,none⟩=false :=
 ⟨(h 0 _ rfl).2,(h 1 _ rfl).2,(h 2 _ rfl).2,(h 3 _ rfl).2,(h 4 _ rfl).2,(h 5 _ rfl).2,(h 6 _ rfl).2,(h 7 _ rfl).2,(h 8 _ rfl).2,(h 9 _ rfl).2⟩
theorem Bx.c12{w:World}{b:Nat}{v0 v1 v2 v3 v4 v5 v6 v7 v8 v9 v10 v11:Value}(h:Bx w b [v0,v1,v2,v3,v4,v5,v6,v7,v8,v9,v10,v11]):w.cell? ⟨b,0,none⟩=some v0∧w.cell? ⟨b,1,none⟩=some v1∧w.cell? ⟨b,2,none⟩=some v2∧w.cell? ⟨b,3,none⟩=some v3∧w.cell? ⟨b,4,none⟩=some v4∧w.cell? ⟨b,5,none⟩=some v5∧w.cell? ⟨b,6,none⟩=some v6∧w.cell? ⟨b,7,none⟩=some v7∧w.cell? ⟨b,8,none⟩=some v8∧w.cell? ⟨b,9,none⟩=some v9∧w.cell? ⟨b,10,none⟩=some v10∧w.cell? ⟨b,11,none⟩=some v11 :=
 ⟨(h 0 _ rfl).1,(h 1 _ rfl).1,(h 2 _ rfl).1,(h 3 _ rfl).1,(h 4 _ rfl).1,(h 5 _ rfl).1,(h 6 _ rfl).1,(h 7 _ rfl).1,(h 8 _ rfl).1,(h 9 _ rfl).1,(h 10 _ rfl).1,(h 11 _ rfl).1⟩
theorem Bx.f12{w:World}{b:Nat}{v0 v1 v2 v3 v4 v5 v6 v7 v8 v9 v10 v11:Value}(h:Bx w b [v0,v1,v2,v3,v4,v5,v6,v7,v8,v9,v10,v11]):w.frozen? ⟨b,0,none⟩=false∧w.frozen? ⟨b,1,none⟩=false∧w.frozen? ⟨b,2,none⟩=false∧w.frozen? ⟨b,3,none⟩=false∧w.frozen? ⟨b,4,none⟩=false∧w.frozen? ⟨b,5,none⟩=false∧w.frozen? ⟨b,6,none⟩=false∧w.frozen? ⟨b,7,none⟩=false∧w.frozen? ⟨b,8,none⟩=false∧w.frozen? ⟨b,9,none⟩=false∧w.frozen? ⟨b,10,none⟩=false∧w.frozen? ⟨b,11,none⟩=false :=
 ⟨(h 0 _ rfl).2,(h 1 _ rfl).2,(h 2 _ rfl).2,(h 3 _ rfl).2,(h 4 _ rfl).2,(h 5 _ rfl).2,(h 6 _ rfl).2,(h 7 _ rfl).2,(h 8 _ rfl).2,(h 9 _ rfl).2,(h 10 _ rfl).2,(h 11 _ rfl).2⟩
theorem Bx.c13{w:World}{b:Nat}{v0 v1 v2 v3 v4 v5 v6 v7 v8 v9 v10 v11 v12:Value}(h:Bx w b [v0,v1,v2,v3,v4,v5,v6,v7,v8,v9,v10,v11,v12]):w.cell? ⟨b,0,none⟩=some v0∧w.cell? ⟨b,1,none⟩=some v1∧w.cell? ⟨b,2,none⟩=some v2∧w.cell? ⟨b,3,none⟩=some v3∧w.cell? ⟨b,4,none⟩=some v4∧w.cell? ⟨b,5,none⟩=some v5∧w.cell? ⟨b,6,none⟩=some v6∧w.cell? ⟨b,7,none⟩=some v7∧w.cell? ⟨b,8,none⟩=some v8∧w.cell? ⟨b,9,none⟩=some v9∧w.cell? ⟨b,10,none⟩=some v10∧w.cell? ⟨b,11,none⟩=some v11∧w.cell? ⟨b,12,none⟩=some v12 :=
 ⟨(h 0 _ rfl).1,(h 1 _ rfl).1,(h 2 _ rfl).1,(h 3 _ rfl).1,(h 4 _ rfl).1,(h 5 _ rfl).1,(h 6 _ rfl).1,(h 7 _ rfl).1,(h 8 _ rfl).1,(h 9 _ rfl).1,(h 10 _ rfl).1,(h 11 _ rfl).1,(h 12 _ rfl).1⟩
theorem Bx.f13{w:World}{b:Nat}{v0 v1 v2 v3 v4 v5 v6 v7 v8 v9 v10 v11 v12:Value}(h:Bx w b [v0,v1,v2,v3,v4,v5,v6,v7,v8,v9,v10,v11,v12]):w.frozen? ⟨b,0,none⟩=false∧w.frozen? ⟨b,1,none⟩=false∧w.frozen? ⟨b,2,none⟩=false∧w.frozen? ⟨b,3,none⟩=false∧w.frozen? ⟨b,4,none⟩=false∧w.frozen? ⟨b,5,none⟩=false∧w.frozen? ⟨b,6,none⟩=false∧w.frozen? ⟨b,7,none⟩=false∧w.frozen? ⟨b,8,none⟩=false∧w.frozen? ⟨b,9,none⟩=false∧w.frozen? ⟨b,10,none⟩=false∧w.frozen? ⟨b,11,none⟩=false∧w.frozen? ⟨b,12,none⟩=false :=
 ⟨(h 0 _ rfl).2,(h 1 _ rfl).2,(h 2 _ rfl).2,(h 3 _ rfl).2,(h 4 _ rfl).2,(h 5 _ rfl).2,(h 6 _ rfl).2,(h 7 _ rfl).2,(h 8 _ rfl).2,(h 9 _ rfl).2,(h 10 _ rfl).2,(h 11 _ rfl).2,(h 12 _ rfl).2⟩
theorem Bx.c4{w:World}{b:Nat}{v0 v1 v2 v3:Value}(h:Bx w b [v0,v1,v2,v3]):w.cell? ⟨b,0,none⟩=some v0∧w.cell? ⟨b,1,none⟩=some v1∧w.cell? ⟨b,2,none⟩=some v2∧w.cell? ⟨b,3,none⟩=some v3 :=
 ⟨(h 0 _ rfl).1,(h 1 _ rfl).1,(h 2 _ rfl).1,(h 3 _ rfl).1⟩
theorem Bx.lt{w:World}{b:Nat}{v:Value}{cs:List Value}(h:Bx w b (v :: cs)):b<w.heap.size:=block_lt_of_cell (h 0 _ rfl).1
end Go.Proofs.YtihcmhmanfobcaaGreatDoor
namespace Go.Proofs.YtihcmhmanfobcaaGreatDoor
open Go.RowKit Go.Sort
theorem infoI64n:(Tryz.prog.info? 2).map (fun i=>(i.zero,i.size,i.bytes))=some (some (.int .i64 0),1,8):=by kernel_rfl
theorem rep_splice(n m q:Nat)(y z:Value):splice (List.replicate m z++List.replicate (n-m) y) m (List.replicate q z)=List.replicate (m+q) z++List.replicate (n-(m+q)) y:=by
 unfold splice
 rw[List.take_left' (by simp),List.length_replicate,← List.append_assoc,List.replicate_append_replicate]
 congr 1
 rw[List.drop_append,List.drop_eq_nil_of_le (by simp),List.nil_append,List.drop_replicate]
 simp
 omega
theorem madeI(n:Nat):(madeCells #[.int .i64 0] n).toList=List.replicate n (.int .i64 0):=by
 apply List.ext_getElem
 ·simp[madeCells]
 ·intro i h1 h2
  simp[madeCells,Nat.mod_one]
theorem row_heap{w:World}{base g n:Nat}{e:TypeId}{xs:List Value}(h:w.ownsRow base e 1 (.slice (some ⟨g,0,none⟩) n n) n xs)(_hl:xs.length=n):w.heap[g]?=some (.cells xs.toArray e (0,0)):=by
 obtain⟨h0,h|⟨g',cap,cur,hv,hb,hg,hc,hm,hs,ht⟩⟩:=h
 ·exact absurd h.1 (by simp)
 ·simp only[Value.slice.injEq,Option.some.injEq,Addr.mk.injEq,and_true,true_and]at hv
  obtain⟨rfl,rfl⟩:=hv
  rw[hg];have:cur.toList=xs:=by rw[← ht,List.take_of_length_le (by simp;omega)]
  rw[← this]
theorem repeat_any(b off c n:Nat)(z:Int)(w:World)(h1:1≤n)(h2:n≤12)(hz:w.cell? ⟨b,off,none⟩=some (.int .i64 z)) :
 Calls Tryz.prog 222 #[.slice (some ⟨b,off,none⟩) 1 c,.int .i64 n] w fun e w'=>∃g,e=.returned (.slice (some ⟨g,0,none⟩) n n)∧w.heap.size≤g∧w'.heap[g]?=some (.cells (List.replicate n (Value.int .i64 z)).toArray 2 (0,0))∧Up w w':=by
 obtain⟨i0,hi0,hz0,hz1,hz2⟩:=info_parts infoI64n
 have cM:=fun wx=>Tryz.bits_Mul 1 n (by omega) (by omega) wx
 have e1:1*n/18446744073709551616=0:=by omega
 have e2:1*n % 18446744073709551616=n:=by omega
 rw[e1,e2]at cM;have CM:=qh cM
 clear cM e1 e2;go_enter Tryz.func222,Tryz.ntmps222
 go_wp2_with first
  |(go_at_call 259;refine(CM.out _).mono ?_;rintro e w1 ⟨rfl,rfl⟩)
  |(refine wpList_make_full _ rfl _ _ 43 rfl w1.heap.size 2 i0 _ 1 Tryz.underlying43 hi0 hz0 hz1 _ _ _ _ n rfl rfl rfl rfl ?b2 ?b3 ?b4 ?_)
 all_goals try first|(rw[hz2];omega;done)|(omega;done)|(unfold maxLen;omega;done)|exact Nat.le_refl _
 intro w2 hown hg
 have hup:Up w1 w2:=(Up.refl _).grown hg (fun k h=>by cases h)
 rw[madeI]at hown;have hheap:w2.heap[w1.heap.size]?=some (.cells (List.replicate n (.int .i64 0)).toArray 2 (0,0)):=row_heap hown (by simp)
 have hz':=hup.cell hz
 have HSRC:Hid (∀j v,[Value.int .i64 z][j]?=some v→w2.cell? ((⟨b,off,none⟩:Addr).add j)=some v):=qh (fun j v hj=>by
  match j,hj with
  | 0,hj=>simp at hj;subst hj;simpa[Addr.add] using hz')
 have HH:=qh hheap
 have HM1:[Value.int .i64 z].length=Nat.min 1 n:=(Nat.min_eq_left h1).symm
 clear hown hg hheap;go_wp2_with (with_reducible refine wpList_copy_splice rfl (.tmp 31) (.tmp 32) 43 43 rfl 2 Tryz.underlying43 (by kernel_rfl) (some ⟨w1.heap.size,0,none⟩) (some ⟨b,off,none⟩) n n 1 c rfl rfl w1.heap.size 0 (List.replicate n (.int .i64 0)) 2 HH.out [.int .i64 z] HM1 (fun _=>⟨rfl,_,rfl,HSRC.out⟩) (by simp;omega) (by simp[Value.oneCell']) w1.heap.size w1 hup (Nat.le_refl _) ?_)
 intro w3 hg3 hb3
 have e0:splice (List.replicate n (Value.int .i64 0)) 0 [.int .i64 z]=List.replicate 1 (.int .i64 z)++List.replicate (n-1) (.int .i64 0):=by
  have:=rep_splice n 0 1 (.int .i64 0) (.int .i64 z)
  simpa using this
 have hg4:=hg3.out
 rw[e0]at hg4;have HG4:=qh hg4
 have u3:Up w1 w3:=hb3
 clear hg3 hg4 hb3 e0;go_wp2;go_loopw [8] (fun i wr=>∃m:Nat,1≤m∧m≤n∧i=.int .i64 m∧Hid (wr.heap[w1.heap.size]?=some (.cells (List.replicate m (Value.int .i64 z)++List.replicate (n-m) (Value.int .i64 0)).toArray 2 (0,0)))∧Up w1 wr) (fun i _=>n-(intOf i).toNat)
 case atStart=>exact⟨1,Nat.le_refl _,h1,rfl,HG4,u3⟩
 case round =>
  obtain⟨m,hm1,hmn,rfl,HG,hup⟩:=hrel
  by_cases hlt:m<n
  ·obtain⟨q,hq⟩:∃q,q=Nat.min m (n-m):=⟨_,rfl⟩
   have hq1:q≤m∧m+q≤n∧0<q:=by rw[hq];simp only[Nat.min_def];split<;>omega
   have hcell:∀j v,(List.replicate q (Value.int .i64 z))[j]?=some v→wr.drew.cell? ((⟨w1.heap.size,0,none⟩:Addr).add j)=some v:=fun j v hj=>by
    have h1:=HG.out
    rw[List.getElem?_replicate]at hj;split at hj
    ·rename_i hjq
     cases hj;have hjm:j<m:=by omega
     rw[World.cell?_drew];rw[show((⟨w1.heap.size,0,none⟩:Addr).add j)=⟨w1.heap.size,j,none⟩ by unfold Addr.add;split<;>simp_all]
     simp[World.cell?,h1,List.getElem?_append_left,hjm]
    ·cases hj
   have hdrew:wr.drew.heap[w1.heap.size]?=wr.heap[w1.heap.size]?:=rfl
   obtain⟨A2,hA2,hrun⟩:=run_sliceFrom (P:=Tryz.prog) (t:=43) (sz:=1) Tryz.underlying43 (fun _=>rfl) w1.heap.size 0 n n m (by omega) (Nat.le_refl _)
   have hA3:A2=some ⟨w1.heap.size,m,none⟩:=by rcases hA2 with h|h;· simpa using h
                                              ·omega
   subst hA3;have R1:=fun wx=>hrun .i64 (m:Int) wx rfl
   have HMIN:(List.replicate q (Value.int .i64 z)).length=Nat.min m (n-m):=by rw[List.length_replicate];exact hq
   have HS:splice (List.replicate m (Value.int .i64 z)++List.replicate (n-m) (Value.int .i64 0)) m (List.replicate q (Value.int .i64 z))=List.replicate (m+q) (Value.int .i64 z)++List.replicate (n-(m+q)) (Value.int .i64 0):=rep_splice n m q _ _
   have HSS:=qh HS
   have HMI:=qh HMIN
   have HHC:=qh hcell
   have HG2:Hid (wr.drew.heap[w1.heap.size]?=some (.cells (List.replicate m (Value.int .i64 z)++List.replicate (n-m) (Value.int .i64 0)).toArray 2 (0,0))):=qh HG.out
   clear hA2 hrun hcell hdrew HS HMIN hq;go_wp2;go_region_law ((refine step_copy_splice rfl (.tmp 41) (.tmp 44) 43 43 rfl 2 Tryz.underlying43 (by kernel_rfl) (some ⟨w1.heap.size,m,none⟩) (some ⟨w1.heap.size,0,none⟩) (n-m) (n-m) m n (by simp[Act.eval,Act.put]) (by simp[Act.eval,Act.put]) w1.heap.size m (List.replicate m (Value.int .i64 z)++List.replicate (n-m) (Value.int .i64 0)) 2 HG2.out (List.replicate q (Value.int .i64 z)) HMI.out (fun _=>⟨rfl,_,rfl,HHC.out⟩) (by simp;omega) (by simp[Value.oneCell']) w1.heap.size w1 hup.drew (Nat.le_refl _) ?_;intro w4 hg4 hb4))
   all_goals
    have hg5:=hg4.out
    rw[HSS.out]at hg5;have HG5:=qh hg5
    clear hg4 hg5;have hwr:IntKind.i64.wrap ((m:Int)+(q:Int))=(m:Int)+(q:Int):=IntWalk.i64_in _ (by omega)
    go_simp
    clear hwr;go_wp2;go_roundw
    case rel=>exact⟨m+q,by omega,hq1.2.1,by go_num,HG5,hb4⟩
    case measure=>simp[intOf];omega
  ·obtain rfl:m=n:=by omega
   go_wp2;go_ret;refine⟨_,rfl,Nat.le_refl _,?_,hup⟩
   have:=HG.out
   simpa using this
structure MtW (w:World) (base g:Nat) (r:Nat→Nat) (n:Nat) (f:Nat→Nat→Int):Prop where
 row:∀i,i<n→w.cell? ⟨g,i,none⟩=some (.slice (some ⟨r i,0,none⟩) n n)
 cel:∀i j,i<n→j<n→w.cell? ⟨r i,j,none⟩=some (.int .i64 (f i j))∧w.frozen? ⟨r i,j,none⟩=false
 sep:∀i,i<n→r i≠g∧base≤r i
 inj:∀i j,i<n→j<n→r i=r j→i=j
theorem MtW.put{w:World}{base g n:Nat}{r:Nat→Nat}{f f':Nat→Nat→Int}(h:MtW w base g r n f){i j:Nat}(hi:i<n)(hj:j<n)(x:Int)
 (hf:∀a b,a<n→b<n→f' a b=if a=i∧b=j then x else f a b):MtW (w.setCell ⟨r i,j,none⟩ (.int .i64 x)) base g r n f':=by
 refine⟨fun a ha=>?_,fun a b ha hb=>?_,h.sep,h.inj⟩
 ·rw[World.cell?_setCell_other _ _ _ _ (fun e=>(h.sep i hi).1 (by simpa using congrArg Addr.block e))]
  exact h.row a ha
 ·rw[World.frozen?_setCell]
  refine⟨?_,(h.cel a b ha hb).2⟩
  rw[hf a b ha hb];by_cases e:a=i∧b=j
  ·obtain⟨rfl,rfl⟩:=e
   rw[if_pos ⟨rfl,rfl⟩]
   exact World.cell?_setCell_same _ _ _ (h.cel a b ha hb).1
  ·rw[if_neg e,World.cell?_setCell_other]
   ·exact(h.cel a b ha hb).1
   ·intro e2
    simp only[Addr.mk.injEq,and_true]at e2
    exact e ⟨(h.inj i a hi ha e2.1).symm,e2.2.symm⟩
theorem MtW.up{w w':World}{base g n:Nat}{r:Nat→Nat}{f:Nat→Nat→Int}(h:MtW w base g r n f)(u:Up w w'):MtW w' base g r n f :=
 ⟨fun i hi=>u.cell (h.row i hi),fun i j hi hj=>⟨u.cell (h.cel i j hi hj).1,(Below.frozen u (p:=⟨r i,j,none⟩) (block_lt_of_cell (h.cel i j hi hj).1)).trans (h.cel i j hi hj).2⟩,h.sep,h.inj⟩
theorem heap_setCell_row{w:World}{b k:Nat}{u:Value}{xs:List Value}{t:TypeId}{fr:Nat × Nat}(h:w.heap[b]?=some (.cells xs.toArray t fr)):(w.setCell ⟨b,k,none⟩ u).heap[b]?=some (.cells (xs.set k u).toArray t fr):=by
 simp[World.setCell,Array.getElem?_modify,h]
theorem heap_cell{w:World}{b k:Nat}{u:Value}{xs:List Value}{t:TypeId}(h:w.heap[b]?=some (.cells xs.toArray t (0,0)))(hk:xs[k]?=some u):w.cell? ⟨b,k,none⟩=some u∧w.frozen? ⟨b,k,none⟩=false:=by
 constructor
 ·simp[World.cell?,h,hk]
 ·simp[World.frozen?,h]
structure MtB (w:World) (base:Nat) (v:Value) (k n:Nat) (rs:List Nat):Prop where
 own:w.ownsRow base 43 1 v k (rs.map fun b=>.slice (some ⟨b,0,none⟩) n n)
 len:rs.length=k
 blk:∀(i b:Nat),rs[i]?=some b→base≤b∧w.heap[b]?=some (.cells ((List.replicate n (Value.int .i64 1000000)).set i (.int .i64 0)).toArray 2 (0,0))
 inj:∀(i j b:Nat),rs[i]?=some b→rs[j]?=some b→i=j
theorem own_head{w:World}{base:Nat}{e:TypeId}{size:Nat}{v:Value}{n:Nat}{xs:List Value}(h:w.ownsRow base e size v n xs):∀g,v.ownBlock=some g→∃cs,w.heap[g]?=some (.cells cs e (0,0)):=by
 intro g hg
 rcases h.2 with⟨rfl,-⟩|⟨g',cap,cur,rfl,-,hh,-⟩
 ·simp[Value.ownBlock]at hg
 ·simp[Value.ownBlock]at hg;subst hg;exact⟨cur,hh⟩
theorem heap_lt{w:World}{b:Nat}{o:Obj}(h:w.heap[b]?=some o):b<w.heap.size:=by
 rcases Nat.lt_or_ge b w.heap.size with hlt|hge
 ·exact hlt
 ·rw[Array.getElem?_eq_none hge]at h;cases h
theorem MtB.up{w w':World}{base:Nat}{v:Value}{k n:Nat}{rs:List Nat}(h:MtB w base v k n rs)(u:Up w w'):MtB w' base v k n rs :=
 ⟨own_up h.own u,h.len,fun i b hb=>⟨(h.blk i b hb).1,by rw[u.block b (heap_lt (h.blk i b hb).2)];exact(h.blk i b hb).2⟩,h.inj⟩
theorem MtB.done{w:World}{base:Nat}{v:Value}{n:Nat}{rs:List Nat}(h:MtB w base v n n rs)(hn:0<n):∃g c,v=.slice (some ⟨g,0,none⟩) n c∧base≤g∧MtW w base g (fun i=>rs.getD i 0) n (fun i j=>if i=j then 0 else 1000000):=by
 obtain⟨A,c,rfl,hc,-,hA,-⟩:=own_form h.own
 obtain⟨g,rfl,hg,-⟩:=hA hn
 refine⟨g,c,rfl,hg,?_⟩
 have hrs:∀i,i<n→rs[i]?=some (rs.getD i 0):=fun i hi=>by
  rw[List.getD_eq_getElem?_getD,List.getElem?_eq_getElem (by rw[h.len];exact hi)];rfl
 obtain⟨cs,hcs⟩:=own_head h.own g rfl
 refine⟨fun i hi=>?_,fun i j hi hj=>?_,fun i hi=>⟨fun e=>?_,(h.blk i _ (hrs i hi)).1⟩,fun i j hi hj e=>h.inj i j _ (hrs i hi) (by have:=hrs j hj;rw[← e]at this;exact this)⟩
 ·rw[h.own.cellAt i (by omega),List.getElem?_map,hrs i hi];rfl
 ·refine heap_cell (h.blk i _ (hrs i hi)).2 ?_
  rw[List.getElem?_set];by_cases e:i=j
  ·subst e;simp[hj]
  ·simp[e,hj]
 ·have h1:=(h.blk i _ (hrs i hi)).2
  rw[e,hcs]at h1;simp at h1
theorem MtB.snoc{w w1 w2:World}{base b:Nat}{v v':Value}{k n:Nat}{rs:List Nat}(h:MtB w base v k n rs)(u:Up w w1)(hb:w.heap.size≤b)(hbase:base≤w.heap.size)
 (hrow:w1.heap[b]?=some (.cells ((List.replicate n (Value.int .i64 1000000)).set k (.int .i64 0)).toArray 2 (0,0)))
 (hown:w2.ownsRow base 43 1 v' (k+1) ((rs.map fun b=>Value.slice (some ⟨b,0,none⟩) n n)++[.slice (some ⟨b,0,none⟩) n n])) (hg:w1.grownBy w2 v.ownBlock):MtB w2 base v' (k+1) n (rs++[b]):=by
 have hv:∀g,v.ownBlock=some g→∃cs,w1.heap[g]?=some (.cells cs 43 (0,0)):=own_head (own_up h.own u)
 have keep:∀(p:Nat) xs,w1.heap[p]?=some (.cells xs 2 (0,0))→w2.heap[p]?=some (.cells xs 2 (0,0)):=fun p xs hp=>by
  rw[hg.block p (heap_lt hp) (fun e=>by obtain⟨cs,hcs⟩:=hv p e.symm;rw[hp]at hcs;simp at hcs)]
  exact hp
 refine⟨by rw[List.map_append];exact hown,by simp[h.len],fun i x hx=>?_,fun i j x hi hj=>?_⟩
 ·rw[List.getElem?_append]at hx
  split at hx
  ·obtain⟨h1,h2⟩:=h.blk i x hx
   exact⟨h1,keep _ _ (by rw[u.block x (heap_lt h2)];exact h2)⟩
  ·rename_i hi
   have e:i-rs.length=0∧b=x:=by
    rcases hz:i-rs.length with _|z
    ·rw[hz]at hx;simp at hx;exact⟨rfl,hx⟩
    ·rw[hz]at hx;simp at hx
   obtain⟨e1,rfl⟩:=e
   obtain rfl:i=k:=by have:=h.len;omega
   exact⟨by omega,keep _ _ hrow⟩
 ·have old:∀i,rs[i]?=some x→x<w.heap.size:=fun i hi=>heap_lt (h.blk i x hi).2
  rw[List.getElem?_append]at hi hj;split at hi<;>split at hj
  ·exact h.inj i j x hi hj
  ·have h1:=old i hi
   rcases hz:j-rs.length with _|z
   ·rw[hz]at hj;simp at hj;omega
   ·rw[hz]at hj;simp at hj
  ·have h1:=old j hj
   rcases hz:i-rs.length with _|z
   ·rw[hz]at hi;simp at hi;omega
   ·rw[hz]at hi;simp at hi
  ·rcases hz:i-rs.length with _|z
   ·rcases hy:j-rs.length with _|y
    ·omega
    ·rw[hy]at hj;simp at hj
   ·rw[hz]at hi;simp at hi
theorem infoRowI:(Tryz.prog.info? 43).map (fun i=>(i.zero,i.size,i.bytes))=some (some (.slice none 0 0),1,24):=by kernel_rfl
def wsT(ts:List I3)(m i j:Nat):Int:=w0s (ts.take m) i j (if i=j then 0 else 1000000)
theorem wsT_all(ts:List I3)(i j:Nat):wsT ts ts.length i j=w0 ts i j:=by unfold wsT w0;rw[List.take_length]
theorem wsT_step{ts:List I3}{m:Nat}{d:I3}(h:ts[m]?=some d)(i j:Nat):wsT ts (m+1) i j=if Fit d i j then min (wsT ts m i j) d.d else wsT ts m i j:=by
 have hm:m<ts.length:=(List.getElem?_eq_some_iff.1 h).1
 unfold wsT w0s
 rw[List.take_succ_eq_append_getElem hm,List.foldl_append,(List.getElem?_eq_some_iff.1 h).2];rfl
theorem wsT_two{ts:List I3}{m A B:Nat}{d:I3}(h:ts[m]?=some d)(hA:d.a=A)(hB:d.b=B)(hne:A≠B)(f1:Nat→Nat→Int)
 (hf1:∀a b,f1 a b=if a=A∧b=B then min (wsT ts m A B) d.d else wsT ts m a b) (a b:Nat):wsT ts (m+1) a b=if a=B∧b=A then min (f1 B A) d.d else f1 a b:=by
 rw[wsT_step h,hf1 B A,hf1 a b];have e1:¬ (B=A∧A=B):=fun e=>hne e.2
 rw[if_neg e1];by_cases h1:a=A∧b=B
 ·obtain⟨rfl,rfl⟩:=h1
  rw[if_pos (by unfold Fit;omega),if_neg (by omega),if_pos ⟨rfl,rfl⟩]
 ·by_cases h2:a=B∧b=A
  ·obtain⟨rfl,rfl⟩:=h2
   rw[if_pos (by unfold Fit;omega),if_pos ⟨rfl,rfl⟩]
  ·rw[if_neg (by unfold Fit;omega),if_neg h2,if_neg h1]
theorem waysOf_any(s:Sl ByteArray)(t:Sl I3)(lo hi:Nat)(w:World)(hn1:1≤s.l.length)(hn:s.l.length≤12)(hws:WaysOk t.l s.l.length)(h:SrI3 w lo hi t) :
 Calls Tryz.prog 171 #[.agg #[.slice s.A s.l.length s.c,.slice t.A t.l.length t.c]] w fun e w'=>∃g c r,e=.returned (.slice (some ⟨g,0,none⟩) s.l.length c)∧w.heap.size≤g∧MtW w' (w.heap.size+1) g r s.l.length (w0 t.l)∧Up w w':=by
 obtain⟨i0,hi0,hz0,hz1,hz2⟩:=info_parts infoRowI
 obtain⟨A,c,l⟩:=t
 have hln:l.length≤2000000:=h.len
 have hr:RdI3 w lo hi A l:=h.rd
 have hhi:=h.hhi
 have HWS:=qh hws
 clear h hws;have u0:=Up.alloc w (.cells #[.slice s.A s.l.length s.c,.slice A l.length c] 55)
 have hB:=Bx.new w #[.slice s.A s.l.length s.c,.slice A l.length c] 55
 obtain⟨n,hnn⟩:∃n,n=s.l.length:=⟨_,rfl⟩
 have HNN:=qh hnn
 show Calls _ _ #[.agg #[_,.slice A l.length c]] _ _
 rw[← hnn]at hn hn1 hB u0 HWS ⊢
 clear hnn;have hown0:((w.alloc (.cells #[.slice s.A n s.c,.slice A l.length c] 55)).alloc (.cells #[] 43)).ownsRow (w.heap.size+1) 43 1 (.slice (some ⟨w.heap.size+1,0,none⟩) 0 0) 0 []:=by
  have:=World.ownsRow_lit (base:=w.heap.size+1) (e:=43) (size:=1) (w.alloc (.cells #[.slice s.A n s.c,.slice A l.length c] 55)) #[] 0 (by simp) (by simp[maxLen]) rfl
  simpa using this
 have hupB:=(Up.refl (w.alloc (.cells #[.slice s.A n s.c,.slice A l.length c] 55))).allocs (.cells #[] 43)
 have HWB:=qh (show(w.alloc (.cells #[.slice s.A n s.c,.slice A l.length c] 55)).heap.size=w.heap.size+1 by simp)
 have hM0:MtB ((w.alloc (.cells #[.slice s.A n s.c,.slice A l.length c] 55)).alloc (.cells #[] 43)) (w.heap.size+1) (.slice (some ⟨w.heap.size+1,0,none⟩) 0 0) 0 n []:=⟨hown0,rfl,fun i b hb=>by simp at hb,fun i j b hb=>by simp at hb⟩
 have hsz0:w.heap.size+1≤((w.alloc (.cells #[.slice s.A n s.c,.slice A l.length c] 55)).alloc (.cells #[] 43)).heap.size:=by simp
 clear hown0;go_enter Tryz.func171,Tryz.ntmps171
 go_wp2_with fail
 generalize w.alloc (.cells #[.slice s.A n s.c,.slice A l.length c] 55)=wB at *
 generalize wB.alloc (.cells #[] 43)=w2 at *
 go_loopw [3,12] (fun o i wr=>∃(k:Nat) (rs:List Nat),k≤n∧i=.int .i64 k∧MtB wr (w.heap.size+1) o k n rs∧Up wB wr) (fun _ i _=>n-(intOf i).toNat)
 case atStart=>exact⟨0,[],Nat.zero_le _,rfl,hM0,hupB⟩
 case round =>
  obtain⟨k,rs,hk,rfl,hM,hup⟩:=hrel
  obtain⟨y0,y1⟩:=(hB.up hup).c2
  by_cases hlt:k<n
  ·have v1:=Up.alloc wr (.cells #[.int .i64 1000000] 2)
   have HR:=qh (repeat_any wr.heap.size 0 1 n 1000000 (wr.alloc (.cells #[.int .i64 1000000] 2)) hn1 hn (by go_simp))
   have y0':=v1.cell y0
   go_wp2_with fail
   refine HR.out.mono ?_
   rintro e w3 ⟨g,rfl,hg,hheap,hup3⟩
   have hup3':=v1.trans hup3
   obtain⟨q1,q2⟩:=heap_cell (k:=k) hheap (List.getElem?_replicate_of_lt hlt)
   have hgr:wr.heap.size≤g:=by simp at hg;omega
   have hupA:=hup3'.setCell (p:=⟨g,k,none⟩) hgr (.int .i64 0)
   have hMA:=hM.up hupA
   have hrowA:=heap_setCell_row (k:=k) (u:=.int .i64 0) hheap
   have hupA1:=hupA.allocs (.cells #[.slice (some ⟨g,0,none⟩) n n] 43)
   have hrowA1:((w3.setCell ⟨g,k,none⟩ (.int .i64 0)).alloc (.cells #[.slice (some ⟨g,0,none⟩) n n] 43)).heap[g]?=some (.cells ((List.replicate n (Value.int .i64 1000000)).set k (.int .i64 0)).toArray 2 (0,0)):=by
    rw[(Up.alloc (w3.setCell ⟨g,k,none⟩ (.int .i64 0)) _).block g (heap_lt hrowA)];exact hrowA
   have hsz:w.heap.size+1≤wr.heap.size:=by have:=hup.size;have:=HWB.out;omega
   have n1:k+1≤maxLen:=by unfold maxLen;omega
   have n2:(k+1)*24≤140737488355328:=by omega
   have n3:w.heap.size+1≤((w3.setCell ⟨g,k,none⟩ (.int .i64 0)).alloc (.cells #[.slice (some ⟨g,0,none⟩) n n] 43)).heap.size:=Nat.le_trans hsz hupA1.size
   have HRA:=qh hrowA1
   have HSZ:n3=n3:=rfl
   clear hheap HR hrowA hrowA1 HSZ;have hownA:=hMA.own
   go_wp2_with ((at_builtin;refine wpList_append_own _ rfl _ _ 188 rfl (w.heap.size+1) 43 i0 _ 1 24 Tryz.underlying188 hi0 hz0 hz1 hz2 rfl (by decide) _ _ _ rfl (hownA.alloc _) ⟨w3.heap.size,0,none⟩ 1 1 [.slice (some ⟨g,0,none⟩) n n] rfl rfl (fun j u hj=>by
    match j,hj with
    | 0,hj=>simp at hj;subst hj;go_simp) (by simp[Value.oneCell']) n1 n2 n3 ?_))
   intro v' w4 hown' hgrow _
   have hM4:=hM.snoc hupA1 hgr hsz HRA.out hown' hgrow
   have hu4:=(hup.trans hupA1).grown hgrow (fun b hb=>by have:=(hM.own.lt b hb).1;have:=HWB.out;omega)
   clear hown' hgrow;go_wp2;go_roundw
   case rel=>exact⟨k+1,rs++[g],by omega,by go_num,hM4,hu4⟩
   case measure=>simp[intOf];omega
  ·obtain rfl:k=n:=by omega
   obtain⟨g,cg,rfl,hg,hW⟩:=hM.done (by omega)
   obtain⟨r,hr0⟩:∃r:Nat→Nat,r=fun i=>rs.getD i 0:=⟨_,rfl⟩
   rw[← hr0]at hW;clear hr0 hM;have hhB:hi≤wB.heap.size:=by have:=HWB.out;omega
   have hW0:MtW wr (w.heap.size+1) g r k (wsT l 0):=hW
   clear hW;go_wp2_with fail
   obtain⟨wo,rfl⟩:∃x,x=wr:=⟨_,rfl⟩
   go_loopw [31] (fun i wr=>∃m:Nat,m≤l.length∧i=.int .i64 m∧MtW wr (w.heap.size+1) g r k (wsT l m)∧Up wB wr) (fun i _=>l.length-(intOf i).toNat)
   case atStart=>exact⟨0,Nat.zero_le _,rfl,hW0,hup⟩
   case round =>
    obtain⟨m,hm,rfl,hW,hup⟩:=hrel
    by_cases hml:m<l.length
    ·obtain⟨b,off,d,rfl,-,-,hd,q0,q1,q2⟩:=((hr.up u0 hhi).up hup hhB).i3 hml
     obtain⟨hA0,hA1,hB0,hB1,hne,hd1,hd2⟩:=HWS.out d (List.mem_of_getElem? hd)
     obtain⟨mA,hmA⟩:∃x:Nat,d.a=(x:Int):=⟨d.a.toNat,by omega⟩
     obtain⟨mB,hmB⟩:∃x:Nat,d.b=(x:Int):=⟨d.b.toNat,by omega⟩
     have hAn:mA<k:=by omega
     have hBn:mB<k:=by omega
     have hne':mA≠mB:=by omega
     obtain⟨f0,hf0⟩:∃f,f=wsT l m:=⟨_,rfl⟩
     rw[← hf0]at hW;obtain⟨x1,hx1⟩:∃z,z=min (f0 mA mB) d.d:=⟨_,rfl⟩
     obtain⟨f1,hf1⟩:∃f:Nat→Nat→Int,f=fun a b=>if a=mA∧b=mB then x1 else f0 a b:=⟨_,rfl⟩
     obtain⟨x2,hx2⟩:∃z,z=min (f1 mB mA) d.d:=⟨_,rfl⟩
     have HP1:=fun(W:World) (h:MtW W (w.heap.size+1) g r k f0)=>h.put (f':=f1) hAn hBn x1 (fun a b _ _=>by rw[hf1])
     have HP2:=fun(W:World) (h:MtW W (w.heap.size+1) g r k f1)=>h.put (f':=wsT l (m+1)) hBn hAn x2 (fun a b _ _=>by
      rw[hx2];exact wsT_two hd hmA hmB hne' f1 (fun a b=>by rw[hf1,hx1,hf0]) a b)
     have HP1:=qh HP1
     have HP2:=qh HP2
     obtain⟨da,db,dd⟩:=d
     simp only at hmA hmB hx1 hx2 q0 q1 q2
     subst hmA hmB
     have HX1:=qh hx1
     have HX2:=qh hx2
     have v1:=Up.alloc wr (.cells #[.int .i64 (mA:Int),.int .i64 (mB:Int),.int .i64 dd] 232)
     have hX:=Bx.new wr #[.int .i64 (mA:Int),.int .i64 (mB:Int),.int .i64 dd] 232
     clear hx1 hx2 hf0 hf1 hA0 hA1 hB0 hB1 hne hd1 hd2 hd;go_wp2_with fail
     generalize wr.alloc (.cells #[.int .i64 (mA:Int),.int .i64 (mB:Int),.int .i64 dd] 232)=W2 at *
     have hW2:=hW.up v1
     obtain⟨y0,y1,y2⟩:=hX.c3
     have t0:=hW2.row mA hAn
     obtain⟨t1,t2⟩:=hW2.cel mA mB hAn hBn
     have hAn':(mA:Int)<(k:Int):=by omega
     have hBn':(mB:Int)<(k:Int):=by omega
     have hlA:r mA<wr.heap.size:=block_lt_of_cell (hW.cel mA mB hAn hBn).1
     have hlB:r mB<wr.heap.size:=block_lt_of_cell (hW.cel mB mA hBn hAn).1
     go_still_tail 20,(by kernel_rfl)
     change wpList _ _ _ _ _ W2.drew
     have hd1:=(Up.refl W2).drew
     have t2':=(hW2.up hd1).cel mA mB hAn hBn
     go_wp2_with fail
     rw[← HX1.out];have hd2:=(Up.refl (W2.setCell ⟨r mA,mB,none⟩ (.int .i64 x1))).drew
     have hX3:=(hX.other (b':=r mA) (by omega) mB (.int .i64 x1)).up hd2
     have hW3:=(HP1.out _ hW2).up hd2
     have hb4:=((hup.trans v1).setCell (p:=⟨r mA,mB,none⟩) (by have:=(hW.sep mA hAn).2;have:=HWB.out;show wB.heap.size≤r mA;omega) (.int .i64 x1)).drew
     clear y0 y1 y2 t0 t1 t2 hd1 t2' hd2;generalize (W2.setCell ⟨r mA,mB,none⟩ (.int .i64 x1)).drew=W3 at *
     obtain⟨y0,y1,y2⟩:=hX3.c3
     have t0:=hW3.row mB hBn
     obtain⟨t1,t2⟩:=hW3.cel mB mA hBn hAn
     go_wp2_with fail
     go_still_tail 20,(by kernel_rfl)
     change wpList _ _ _ _ _ W3.drew
     have hd1:=(Up.refl W3).drew
     have t2':=(hW3.up hd1).cel mB mA hBn hAn
     go_wp2;rw[← HX2.out];have hW4:=(HP2.out _ hW3).up ((Up.refl (W3.setCell ⟨r mB,mA,none⟩ (.int .i64 x2))).drew)
     have hb5:=(hb4.setCell (p:=⟨r mB,mA,none⟩) (by have:=(hW.sep mB hBn).2;have:=HWB.out;show wB.heap.size≤r mB;omega) (.int .i64 x2)).drew
     clear y0 y1 y2 t0 t1 t2 hd1 t2';go_roundw
     case rel=>exact⟨m+1,by omega,by go_num,hW4,hb5⟩
     case measure=>simp[intOf];omega
    ·obtain rfl:m=l.length:=by omega
     go_wp2;go_ret;have hf:wsT l l.length=w0 l:=by funext i j;exact wsT_all l i j
     exact⟨g,cg,r,rfl,by omega,hf ▸ hW,u0.trans hup⟩
abbrev phC(x:Sl ByteArray):List Value:=[.slice x.A x.l.length x.c]
theorem phC_len(x:Sl ByteArray):(phC x).length=1:=rfl
theorem Rd.ph{w:World}{lo hi:Nat}{A:Option Addr}{l:List (Sl ByteArray)}(h:Rd w lo hi 1 phC A l){k:Nat}(hk:k<l.length) :
 ∃b off d,A=some ⟨b,off,none⟩∧lo≤b∧b<hi∧l[k]?=some d∧w.cell? ⟨b,off+k,none⟩=some (.slice d.A d.l.length d.c):=by
 obtain⟨b,off,d,e,h1,h2,h3,h4⟩:=Rd.at_ h hk
 have:=h4 0 _ rfl
 rw[Nat.mul_one]at this;exact⟨b,off,d,e,h1,h2,h3,this⟩
structure SrF (w:World) (lo hi:Nat) (g:Sl Fm):Prop where
 rd:RdF w lo hi g.A g.l
 hhi:hi≤w.heap.size
 len:g.l.length≤2000000
 ok:∀x∈g.l,x.ok
 ws:∀x∈g.l,x.ws.length≤2000000
 cap:g.l.length≤g.c∧g.c≤maxLen
theorem SrF.up{w w':World}{lo hi:Nat}{g:Sl Fm}(h:SrF w lo hi g)(u:Up w w'):SrF w' lo hi g:=⟨h.rd.up u h.hhi,Nat.le_trans h.hhi u.size,h.len,h.ok,h.ws,h.cap⟩
structure SrPh (w:World) (lo hi:Nat) (q:Sl (Sl ByteArray)):Prop where
 rd:Rd w lo hi 1 phC q.A q.l
 hhi:hi≤w.heap.size
 len:q.l.length≤2000000
 each:∀p∈q.l,SrSt w lo hi p
 cap:q.l.length≤q.c∧q.c≤maxLen
theorem SrPh.up{w w':World}{lo hi:Nat}{g:Sl (Sl ByteArray)}(h:SrPh w lo hi g)(u:Up w w'):SrPh w' lo hi g:=⟨h.rd.up u h.hhi,Nat.le_trans h.hhi u.size,h.len,fun p hp=>(h.each p hp).up u,h.cap⟩
structure RawPh (w:World) (lo hi:Nat) (q:Sl (Sl ByteArray)):Prop where
 rd:Rd w lo hi 1 phC q.A q.l
 hhi:hi≤w.heap.size
 len:q.l.length≤maxLen
 each:∀p∈q.l,SqSt w lo hi p
 cap:q.l.length≤q.c∧q.c≤maxLen
theorem RawPh.up{w w':World}{lo hi:Nat}{g:Sl (Sl ByteArray)}(h:RawPh w lo hi g)(u:Up w w'):RawPh w' lo hi g:=⟨h.rd.up u h.hhi,Nat.le_trans h.hhi u.size,h.len,fun p hp=>(h.each p hp).up u,h.cap⟩
def SmPh(q:Sl (Sl ByteArray)):Prop:=q.l.length≤2000000∧∀p∈q.l,p.l.length≤2000000
theorem RawPh.sr{w:World}{lo hi:Nat}{q:Sl (Sl ByteArray)}(h:RawPh w lo hi q)(k:SmPh q):SrPh w lo hi q:=⟨h.rd,h.hhi,k.1,fun p hp=>(h.each p hp).sr (k.2 p hp),h.cap⟩
structure RawF (w:World) (lo hi:Nat) (g:Sl Fm):Prop where
 rd:RdF w lo hi g.A g.l
 hhi:hi≤w.heap.size
 len:g.l.length≤maxLen
 ok:∀x∈g.l,x.ok
 cap:g.l.length≤g.c∧g.c≤maxLen
theorem RawF.up{w w':World}{lo hi:Nat}{g:Sl Fm}(h:RawF w lo hi g)(u:Up w w'):RawF w' lo hi g:=⟨h.rd.up u h.hhi,Nat.le_trans h.hhi u.size,h.len,h.ok,h.cap⟩
def SmFm(g:Sl Fm):Prop:=g.l.length≤2000000∧∀x∈g.l,x.ws.length≤2000000
theorem RawF.sr{w:World}{lo hi:Nat}{g:Sl Fm}(h:RawF w lo hi g)(k:SmFm g):SrF w lo hi g:=⟨h.rd,h.hhi,k.1,h.ok,k.2,h.cap⟩
abbrev phP(q:List (Sl ByteArray)):List (List ByteArray):=q.map fun p=>p.l
theorem toForS(A:Option Addr)(l:List Fm)(c lo hi:Nat)(w:World)(hr:RdF w lo hi A l)(hhi:hi≤w.heap.size)(hn:l.length≤2000000)(hws:∀x∈l,x.ws.length≤2000000) :
 Calls Tryz.prog 25 #[.slice A l.length c] w fun e w'=>∃A' c' L,e=.returned (.slice A' L.length c')∧L.length=l.length∧L.map Fm.p=l.map Fm.p∧L.length≤c'∧c'≤maxLen∧(∀y∈L,y.ok')∧RdF w' w.heap.size w'.heap.size A' L∧OwnF w' w.heap.size A' L.length c' L∧Up w w' :=
 (toFormulaS_any A l c lo hi w hr hhi hn hws).mono fun e w' ⟨A',c',L,he,h1,h2,h3,h4,h5,h6⟩=>by
   rw[← h1]at he h3 h5;have h7:∀y∈L,y.ok':=by obtain⟨g,-,-,h,-,-⟩:=h5;exact fun y hy=>(h y hy).1
   exact⟨A',c',L,he,h1,h2,h3,h4,h7,h5.rd,h5,h6⟩
theorem same_ws{L l:List Fm}(h:L.map Fm.p=l.map Fm.p){q:List ByteArray→Prop}(hq:∀x∈l,q x.ws):∀x∈L,q x.ws:=fun x hx=>by
 have h1:x.p∈l.map Fm.p:=by rw[← h];exact List.mem_map_of_mem hx
 obtain⟨y,hy,e⟩:=List.mem_map.1 h1
 have:=hq y hy
 simp only[Fm.p,Prod.mk.injEq]at e
 rw[← e.1];exact this
theorem same_ok{L l:List Fm}(h:L.map Fm.p=l.map Fm.p)(h':∀y∈L,y.ok')(hq:∀x∈l,x.ok):∀x∈L,x.ok :=
 fun x hx=>⟨same_ws (q:=fun ws=>∀s∈ws,s.size≤maxLen) h (fun y hy=>(hq y hy).1) x hx,h' x hx⟩
end Go.Proofs.YtihcmhmanfobcaaGreatDoor
