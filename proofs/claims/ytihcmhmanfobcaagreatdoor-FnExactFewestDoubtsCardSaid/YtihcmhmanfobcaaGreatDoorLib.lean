/- Words on memory that all walks of this seat use: slices that read as lists, worlds that only grew. -/
import Derived.WalkKit
import Derived.WalkSpells
import Derived.WalkLawsBesides
import Derived.Deep.QuietTactic
import Derived.BigQuiet
import Derived.Lib.QuietBelow
import Derived.Lib.Hide
import Derived.Test.YtihcmhmanfobcaaGreatDoorProg
set_option maxHeartbeats 2000000
set_option maxRecDepth 100000
namespace Go.Proofs.YtihcmhmanfobcaaGreatDoor
open Go.RowKit
abbrev Up(w w':World):Prop:=Below w.heap.size w w'
theorem qh{p:Prop}(h:p):Go.RowKit.Hid p:=h
theorem Up.refl(w:World):Up w w:=Below.refl _ _
theorem Up.trans{a b c:World}(h:Up a b)(k:Up b c):Up a c :=
 Below.trans h (Below.mono k h.size)
theorem Up.alloc(w:World)(o:Obj):Up w (w.alloc o):=(Below.refl _ _).alloc (Nat.le_refl _) o
theorem Up.cell{w w':World}(h:Up w w'){a:Addr}{v:Value}(hc:w.cell? a=some v):w'.cell? a=some v:=by
 rw[Below.cell h (block_lt_of_cell hc)];exact hc
def Rd{α:Type}(w:World)(lo hi size:Nat)(f:α→List Value)(A:Option Addr)(l:List α):Prop :=
 l≠[]→∃b off,A=some ⟨b,off,none⟩∧lo≤b∧b<hi∧∀i x,l[i]?=some x→∀j u,(f x)[j]?=some u→w.cell? ⟨b,off+i*size+j,none⟩=some u
section
variable {α:Type} {w w':World} {lo hi size:Nat} {f:α→List Value} {A:Option Addr} {l:List α}
theorem Rd.nil_:Rd w lo hi size f A []:=fun h=>absurd rfl h
theorem Rd.keep(h:Rd w lo hi size f A l)(hk:∀p:Addr,lo≤p.block→p.block<hi→w'.cell? p=w.cell? p):Rd w' lo hi size f A l:=fun hn=>by
 obtain⟨b,off,e,h1,h2,h3⟩:=h hn
 exact⟨b,off,e,h1,h2,fun i x hx j u hu=>(hk _ h1 h2).trans (h3 i x hx j u hu)⟩
theorem Rd.below{B:Nat}(h:Rd w lo hi size f A l)(hb:Below B w w')(hB:hi≤B):Rd w' lo hi size f A l :=
 h.keep fun _ _ hp=>hb.cell (Nat.lt_of_lt_of_le hp hB)
theorem Rd.up(h:Rd w lo hi size f A l)(hb:Up w w')(hB:hi≤w.heap.size):Rd w' lo hi size f A l:=h.below hb hB
theorem Rd.wide{lo' hi':Nat}(h:Rd w lo hi size f A l)(h1:lo'≤lo)(h2:hi≤hi'):Rd w lo' hi' size f A l:=fun hn=>by
 obtain⟨b,off,e,h3,h4,h5⟩:=h hn
 exact⟨b,off,e,by omega,by omega,h5⟩
theorem Rd.at_(h:Rd w lo hi size f A l){k:Nat}(hk:k<l.length):∃b off x,A=some ⟨b,off,none⟩∧lo≤b∧b<hi∧l[k]?=some x∧∀j u,(f x)[j]?=some u→w.cell? ⟨b,off+k*size+j,none⟩=some u:=by
 obtain⟨b,off,e,h1,h2,h3⟩:=h (by rintro rfl;simp at hk)
 exact⟨b,off,l[k],e,h1,h2,List.getElem?_eq_getElem hk,h3 k _ (List.getElem?_eq_getElem hk)⟩
theorem Rd.drop{b off:Nat}(h:Rd w lo hi size f (some ⟨b,off,none⟩) l)(k:Nat):Rd w lo hi size f (some ⟨b,off+k*size,none⟩) (l.drop k):=fun hn=>by
 obtain⟨b',off',e,h1,h2,h3⟩:=h (by rintro rfl;simp at hn)
 cases e;refine⟨b,off+k*size,rfl,h1,h2,fun i x hx j u hu=>?_⟩
 rw[List.getElem?_drop]at hx;have:=h3 _ x hx j u hu
 rwa [Nat.add_mul,show off+(k*size+i*size)+j=off+k*size+i*size+j by omega]at this
theorem Rd.take(h:Rd w lo hi size f A l)(k:Nat):Rd w lo hi size f A (l.take k):=fun hn=>by
 obtain⟨b,off,e,h1,h2,h3⟩:=h (by rintro rfl;simp at hn)
 refine⟨b,off,e,h1,h2,fun i x hx j u hu=>h3 i x ?_ j u hu⟩
 rw[List.getElem?_take]at hx;split at hx
 ·exact hx
 ·cases hx
end
theorem own_up{w w':World}{base:Nat}{e:TypeId}{size:Nat}{v:Value}{n:Nat}{xs:List Value}(h:w.ownsRow base e size v n xs)(hu:Up w w'):w'.ownsRow base e size v n xs:=by
 refine⟨h.1,?_⟩
 rcases h.2 with h2|⟨g,cap,cur,hv,hg,hh,r⟩
 ·exact .inl h2
 ·refine .inr ⟨g,cap,cur,hv,hg,?_,r⟩
  have hlt:g<w.heap.size:=by
   rcases Nat.lt_or_ge g w.heap.size with hlt|hge
   ·exact hlt
   ·rw[Array.getElem?_eq_none hge]at hh;cases hh
  rw[hu.block g hlt];exact hh
theorem own_base{w:World}{base base':Nat}{e:TypeId}{size:Nat}{v:Value}{n:Nat}{xs:List Value}(h:w.ownsRow base e size v n xs)(hb:base'≤base):w.ownsRow base' e size v n xs:=by
 refine⟨h.1,?_⟩
 rcases h.2 with h2|⟨g,cap,cur,hv,hg,r⟩
 ·exact .inl h2
 ·exact .inr ⟨g,cap,cur,hv,Nat.le_trans hb hg,r⟩
theorem own_form{w:World}{base:Nat}{e:TypeId}{size:Nat}{v:Value}{n:Nat}{xs:List Value}(h:w.ownsRow base e size v n xs) :
 ∃A c,v=.slice A n c∧n≤c∧c≤maxLen∧(0<n→∃g,A=some ⟨g,0,none⟩∧base≤g∧g<w.heap.size)∧∀a,A=some a→∃g,a=⟨g,0,none⟩∧base≤g∧g<w.heap.size:=by
 rcases h.2 with⟨rfl,rfl⟩|⟨g,cap,cur,rfl,hg,hh,h1,h2,_⟩
 ·exact⟨none,0,rfl,by omega,by simp[maxLen],fun h=>absurd h (by omega),fun a h=>by cases h⟩
 ·have hlt:g<w.heap.size:=by
   rcases Nat.lt_or_ge g w.heap.size with hlt|hge
   ·exact hlt
   ·rw[Array.getElem?_eq_none hge]at hh;cases hh
  exact⟨_,cap,rfl,h1,h2,fun _=>⟨g,rfl,hg,hlt⟩,fun a h=>by cases h;exact⟨g,rfl,hg,hlt⟩⟩
theorem flat_get{α:Type}(f:α→List Value)(size:Nat)(hf:∀x,(f x).length=size):∀(l:List α) (i:Nat) (x:α),l[i]?=some x→∀j u,(f x)[j]?=some u→(l.flatMap f)[i*size+j]?=some u
 | [],i,x,h=>by simp at h
 | y :: l,0,x,h=>fun j u hu=>by
   simp at h;subst h
   have hj:j<(f y).length:=(List.getElem?_eq_some_iff.1 hu).1
   rw[List.flatMap_cons,Nat.zero_mul,Nat.zero_add,List.getElem?_append_left hj];exact hu
 | y :: l,i+1,x,h=>fun j u hu=>by
   simp at h
   have:=flat_get f size hf l i x h j u hu
   rw[List.flatMap_cons,List.getElem?_append_right (by rw[hf,Nat.add_mul];omega),hf,show(i+1)*size+j-size=i*size+j by rw[Nat.add_mul];omega]
   exact this
theorem flat_length{α:Type}(f:α→List Value)(size:Nat)(hf:∀x,(f x).length=size)(l:List α):(l.flatMap f).length=l.length*size:=by
 induction l with
 | nil=>simp
 | cons y l ih=>rw[List.flatMap_cons,List.length_append,hf,ih,List.length_cons,Nat.add_mul];omega
theorem Rd.own{α:Type}{w:World}{base:Nat}{e:TypeId}{size:Nat}{f:α→List Value}{A:Option Addr}{c:Nat}{l:List α}(hf:∀x,(f x).length=size)
 (h:w.ownsRow base e size (.slice A l.length c) l.length (l.flatMap f)):Rd w base w.heap.size size f A l:=fun hne=>by
 rcases h.2 with⟨hv,hn⟩|⟨g,cap,cur,hv,hg,hh,h1,h2,h3,h4⟩
 ·exact absurd (List.eq_nil_of_length_eq_zero hn) hne
 ·have hlt:g<w.heap.size:=by
   rcases Nat.lt_or_ge g w.heap.size with hlt|hge
   ·exact hlt
   ·rw[Array.getElem?_eq_none hge]at hh;cases hh
  simp only[Value.slice.injEq]at hv
  obtain⟨rfl,-,rfl⟩:=hv
  refine⟨g,0,rfl,hg,hlt,fun i x hx j u hu=>?_⟩
  have h5:=flat_get f size hf l i x hx j u hu
  have hi:i<l.length:=(List.getElem?_eq_some_iff.1 hx).1
  have hj:j<size:=by rw[← hf x];exact(List.getElem?_eq_some_iff.1 hu).1
  have hlt2:i*size+j<l.length*size:=by
   have:(i+1)*size≤l.length*size:=Nat.mul_le_mul_right _ hi
   rw[Nat.add_mul]at this;omega
  rw[Nat.zero_add,World.ownsRow.cellAt h _ hlt2];exact h5
theorem take_set_succ{xs:List Value}{p:Nat}{u:Value}(h:p<xs.length):(xs.set p u).take (p+1)=xs.take p++[u]:=by
 rw[List.take_succ_eq_append_getElem (by simpa using h)]
 congr 1
 ·rw[List.take_set,List.set_eq_of_length_le (by simp;omega)]
 ·simp
theorem take_flat_succ{α:Type}(f:α→List Value){l:List α}{k:Nat}{x:α}(h:l[k]?=some x):(l.take (k+1)).flatMap f=(l.take k).flatMap f++f x:=by
 have hk:k<l.length:=(List.getElem?_eq_some_iff.1 h).1
 rw[List.take_succ_eq_append_getElem hk,List.flatMap_append];simp[(List.getElem?_eq_some_iff.1 h).2]
theorem own_cell{w:World}{base:Nat}{e:TypeId}{size g n c:Nat}{xs:List Value}(h:w.ownsRow base e size (.slice (some ⟨g,0,none⟩) n c) n xs){p:Nat}(hp:p<n*size):∃u,w.cell? ⟨g,p,none⟩=some u:=by
 rw[h.cellAt p hp];exact⟨_,List.getElem?_eq_getElem (by rw[h.1];exact hp)⟩
theorem bytes_inj{a b:ByteArray}:a.toList=b.toList ↔ a=b:=by
 rw[ByteArray.toList_eq,ByteArray.toList_eq,Array.toList_inj];constructor
 ·intro h;obtain⟨a⟩:=a;obtain⟨b⟩:=b;simp at h;rw[h]
 ·rintro rfl;rfl
theorem take_succ_eq{α:Type}{l m:List α}{k:Nat}{x:α}(h:l.take k=m.take k)(hl:l[k]?=some x)(hm:m[k]?=some x):l.take (k+1)=m.take (k+1):=by
 rw[List.take_succ_eq_append_getElem (List.getElem?_eq_some_iff.1 hl).1,List.take_succ_eq_append_getElem (List.getElem?_eq_some_iff.1 hm).1,h,(List.getElem?_eq_some_iff.1 hl).2,(List.getElem?_eq_some_iff.1 hm).2]
theorem Up.grown{a w w':World}{row:Option Nat}(h:Up a w)(hg:w.grownBy w' row)(hr:∀k,row=some k→a.heap.size≤k):Up a w' :=
 Below.grown h hg h.size hr
theorem Up.setCell{a w:World}(h:Up a w){p:Addr}(hp:a.heap.size≤p.block)(u:Value):Up a (w.setCell p u):=Below.setCell h hp u
theorem Up.allocs{a w:World}(h:Up a w)(o:Obj):Up a (w.alloc o):=Below.alloc h h.size o
theorem Up.drew{a w:World}(h:Up a w):Up a w.drew:=Below.drew h
theorem run_conv1{P:Program}{src dst e:TypeId}(hs:P.underlying src=some (.slice e))(he:P.underlying e=some (.int .u8))(hd:P.underlying dst=some .string)(wx:World)(z:Int) :
 (convert src dst (.slice (some ⟨wx.heap.size,0,none⟩) 1 1)).run P (wx.alloc (.cells #[.int .u8 z] e))=.ok (.string ⟨#[UInt8.ofNat z.toNat]⟩) (wx.alloc (.cells #[.int .u8 z] e)):=by
 rw[run_convert_bytes_string _ src dst e _ _ _ hs he hd]
 have h:=run_loadCells_list (P:=P) (wx.alloc (.cells #[.int .u8 z] e)) ⟨wx.heap.size,0,none⟩ [.int .u8 z] (fun j v hv=>by
  match j,hv with
  | 0,hv=>simp at hv;subst hv;simp[Addr.add])
 have h2:=run_bytesToString (P:=P) (wx.alloc (.cells #[.int .u8 z] e)) ⟨wx.heap.size,0,none⟩ 1 1 [z] h
 rw[h2];rfl
def In(v:Value)(b0 b1:Nat):Prop:=∀g,v.ownBlock=some g→b0≤g∧g<b1
theorem In.own{w:World}{base:Nat}{e:TypeId}{size:Nat}{v:Value}{n:Nat}{xs:List Value}(h:w.ownsRow base e size v n xs):In v base w.heap.size:=fun g hg=>h.lt g hg
theorem Rd.grown{α:Type}{w w':World}{lo hi size:Nat}{f:α→List Value}{A:Option Addr}{l:List α}{v:Value}{b0 b1:Nat}(h:Rd w lo hi size f A l)(hg:w.grownBy w' v.ownBlock)(hhi:hi≤w.heap.size)(hb:In v b0 b1)(hd:hi≤b0∨b1≤lo):Rd w' lo hi size f A l :=
 h.keep fun p h1 h2=>World.cell?_of_block (hg.block p.block (by omega) (fun e=>by have:=hb _ e.symm;omega))
theorem own_grown{w w':World}{base:Nat}{e:TypeId}{size:Nat}{v v':Value}{n:Nat}{xs:List Value}{b0 b1 b0' b1':Nat}(h:w.ownsRow base e size v' n xs)(hg:w.grownBy w' v.ownBlock)(hb:In v b0 b1)(hb':In v' b0' b1')(hd:b1'≤b0∨b1≤b0'):w'.ownsRow base e size v' n xs :=
 h.kept hg (by
  rcases hv:v'.ownBlock with _|g
  ·exact .inl rfl
  ·refine .inr fun e=>?_
   have h1:=hb' g hv
   have h2:=hb g e.symm
   omega)
theorem Up.marked{a w w':World}{v:Value}{b0 b1:Nat}(h:Up a w)(hg:w.grownBy w' v.ownBlock)(hb:In v b0 b1)(hd:a.heap.size≤b0):Up a w' :=
 h.grown hg (fun k e=>by have:=hb k e;omega)
theorem run_sliceFrom{P:Program}{t:TypeId}{sz:Nat}(ht:P.underlying t=some (.slice (P.elem t)))(hs:∀w,(sizeOf (P.elem t)).run P w=.ok sz w)(b off n c k:Nat)(hk:k≤n)(hn:n≤c) :
 ∃A2:Option Addr,(A2=some ⟨b,off+k*sz,none⟩∨n≤k)∧∀(kd:IntKind) (i:Int) (w:World),i=(k:Int)→(Instr.sliceAt t (.slice (some ⟨b,off,none⟩) n c) (some (.int kd i)) none none).run P w=.ok (.slice A2 (n-k) (c-k)) w:=by
 by_cases hck:c=k
 ·refine⟨some ⟨b,off,none⟩,.inr (by omega),fun kd i w hi=>?_⟩
  subst hi;rw[run_sliceAt_slice w t _ _ _ _ ht,run_slice_l w t _ n c ht kd (k:Int) (by omega) (by omega),hs]
  simp[Result.andThen,sliced,hck]
 ·refine⟨some ⟨b,off+k*sz,none⟩,.inl rfl,fun kd i w hi=>?_⟩
  subst hi;rw[run_sliceAt_slice w t _ _ _ _ ht,run_slice_l w t _ n c ht kd (k:Int) (by omega) (by omega),hs]
  simp[Result.andThen,sliced,hck,Addr.add]
theorem ret_int{k:IntKind}{a b:Int}(h:a=b):Ending.returned (.int k a)=.returned (.int k b):=by rw[h]
theorem ret_bool{a b:Bool}(h:a=b):Ending.returned (.bool a)=.returned (.bool b):=by rw[h]
theorem infoString:(Tryz.prog.info? 9).map (fun i=>(i.zero,i.size,i.bytes))=some (some (.string ByteArray.empty),1,16):=by kernel_rfl
abbrev strC(z:ByteArray):List Value:=[.string z]
theorem strC_len(z:ByteArray):(strC z).length=1:=rfl
abbrev RdT(w:World)(lo hi:Nat)(A:Option Addr)(l:List ByteArray):Prop:=Rd w lo hi 1 strC A l
theorem Rd.txt{w:World}{lo hi:Nat}{A:Option Addr}{l:List ByteArray}(h:RdT w lo hi A l){k:Nat}(hk:k<l.length) :
 ∃b off z,A=some ⟨b,off,none⟩∧lo≤b∧b<hi∧l[k]?=some z∧w.cell? ⟨b,off+k,none⟩=some (.string z):=by
 obtain⟨b,off,d,e,h1,h2,h3,h4⟩:=Rd.at_ h hk
 have:=h4 0 _ rfl
 rw[Nat.mul_one]at this;exact⟨b,off,d,e,h1,h2,h3,this⟩
end Go.Proofs.YtihcmhmanfobcaaGreatDoor
namespace Go.Proofs.YtihcmhmanfobcaaGreatDoor
open Go.RowKit Go.Sort
def szSs:List ByteArray→Int→Int
 | [],z=>z
 | x :: l,z=>if z<x.size then -1 else szSs l (z-x.size)
def szSL(l:List ByteArray)(left:Int):Int:=if left<l.length then -1 else szSs l (left-l.length)
theorem szSs_yes{l:List ByteArray}{k:Nat}{x:ByteArray}{z:Int}(hx:l[k]?=some x)(h:¬ z<x.size):szSs (l.drop k) z=szSs (l.drop (k+1)) (z-x.size):=by
 have hk:=(List.getElem?_eq_some_iff.1 hx).1
 rw[List.drop_eq_getElem_cons hk,(List.getElem?_eq_some_iff.1 hx).2,szSs,if_neg h]
theorem szSs_no{l:List ByteArray}{k:Nat}{x:ByteArray}{z:Int}(hx:l[k]?=some x)(h:z<x.size):szSs (l.drop k) z=-1:=by
 have hk:=(List.getElem?_eq_some_iff.1 hx).1
 rw[List.drop_eq_getElem_cons hk,(List.getElem?_eq_some_iff.1 hx).2,szSs,if_pos h]
theorem szSs_end{l:List ByteArray}{k:Nat}{z:Int}(h:l.length≤k):szSs (l.drop k) z=z:=by rw[List.drop_eq_nil_of_le h];rfl
theorem szSs_le:∀(l:List ByteArray) (z:Int),0≤z→szSs l z≤z∧(szSs l z<0→szSs l z=-1)
 | [],z,h=>⟨Int.le_refl _,fun h2=>by simp only[szSs]at h2;omega⟩
 | x :: l,z,h=>by
   unfold szSs
   split
   ·exact⟨by omega,fun _=>rfl⟩
   ·have:=szSs_le l (z-x.size) (by omega)
    exact⟨by omega,this.2⟩
theorem szSL_le(l:List ByteArray)(left:Int)(h:0≤left):szSL l left≤left∧(szSL l left<0→szSL l left=-1):=by
 unfold szSL;split
 ·exact⟨by omega,fun _=>rfl⟩
 ·have:=szSs_le l (left-l.length) (by omega)
  exact⟨by omega,this.2⟩
theorem szSL_len{l:List ByteArray}{left:Int}(_h:0≤left)(hz:¬ szSL l left<0):(l.length:Int)≤left:=by
 unfold szSL at hz;split at hz<;>omega
theorem szStringS_any(A:Option Addr)(l:List ByteArray)(c lo hi:Nat)(left:Int)(w:World)(hr:RdT w lo hi A l)(hsz:∀x∈l,x.size≤maxLen)(hn:l.length≤maxLen)(h0:0≤left)(hl:left≤2000000) :
 Calls Tryz.prog 47 #[.slice A l.length c,.int .i64 left] w fun e w'=>e=.returned (.int .i64 (szSL l left))∧w=w':=by
 have hn':=hn
 unfold maxLen at hn'
 by_cases h1:left<l.length
 ·have HE:=qh (show szSL l left=-1 by unfold szSL;rw[if_pos h1])
  have h1':left-(l.length:Int)<0:=by omega
  go_enter Tryz.func47,Tryz.ntmps47
  go_wp2;go_ret;exact⟨ret_int HE.out.symm,rfl⟩
 ·have HE:=qh (show szSL l left=szSs (l.drop 0) (left-l.length) by unfold szSL;rw[if_neg h1];rfl)
  have h1':¬ left-(l.length:Int)<0:=by omega
  have HSZ:=qh hsz
  clear hsz;go_enter Tryz.func47,Tryz.ntmps47
  go_wp2;go_loop [1,5] (fun z i=>∃(k:Nat) (y:Int),k≤l.length∧i=.int .i64 k∧z=.int .i64 y∧0≤y∧y≤2000000∧szSs (l.drop 0) (left-l.length)=szSs (l.drop k) y) (fun _ i=>l.length-(intOf i).toNat)
  case atStart=>exact⟨0,_,Nat.zero_le _,rfl,rfl,by omega,by omega,rfl⟩
  case round =>
   obtain⟨k,y,hk,rfl,rfl,hy0,hy1,hs⟩:=hrel
   have HS:=qh hs
   clear hs;by_cases hlt:k<l.length
   ·obtain⟨b,off,x,rfl,-,-,hx,c0⟩:=hr.txt hlt
    have hxs:=HSZ.out x (List.mem_of_getElem? hx)
    unfold maxLen at hxs
    have HX:=qh hx
    clear hx;by_cases h2:y<x.size
    ·have h2':y-(x.size:Int)<0:=by omega
     go_wp2;go_ret;exact⟨ret_int (by rw[HE.out,HS.out,szSs_no HX.out h2]),rfl⟩
    ·have h2':¬ y-(x.size:Int)<0:=by omega
     go_wp2;go_round
     case rel=>exact⟨k+1,y-x.size,by omega,by go_num,rfl,by omega,by omega,by rw[HS.out,szSs_yes HX.out h2]⟩
     case measure=>simp[intOf];omega
   ·go_wp2
    go_ret;exact⟨ret_int (by rw[HE.out,HS.out,szSs_end (by omega)]),rfl⟩
theorem toStringS_any(A:Option Addr)(l:List ByteArray)(c lo hi:Nat)(w:World)(hr:RdT w lo hi A l)(hhi:hi≤w.heap.size)(hn:l.length≤2000000) :
 Calls Tryz.prog 62 #[.slice A l.length c] w fun e w'=>∃v,e=.returned v∧w'.ownsRow w.heap.size 9 1 v l.length (l.flatMap strC)∧Up w w':=by
 obtain⟨i0,hi0,hz0,hz1,hz2⟩:=info_parts infoString
 go_enter Tryz.func62,Tryz.ntmps62
 go_wp2_with ((refine wpList_make_full _ rfl _ _ 29 rfl w.heap.size 9 i0 _ 1 Tryz.underlying29 hi0 hz0 hz1 _ _ _ _ l.length rfl rfl rfl rfl ?b2 ?b3 ?b4 ?_))
 case b2=>rw[hz2];omega
 case b3=>unfold maxLen;omega
 case b4=>exact Nat.le_refl _
 intro w1 hown hg
 have hup1:Up w w1:=(Up.refl w).grown hg (fun k h=>by cases h)
 generalize (madeCells _ _).toList=xs0 at hown
 clear hg;go_wp2;go_loopw [4] (fun i wr=>∃k:Nat,∃xs,k≤l.length∧i=.int .i64 k∧wr.ownsRow w.heap.size 9 1 (.slice (some ⟨w.heap.size,0,none⟩) l.length l.length) l.length xs∧xs.take k=(l.take k).flatMap strC∧Up w wr) (fun i _=>l.length-(intOf i).toNat)
 case atStart=>exact⟨0,_,Nat.zero_le _,rfl,hown,by simp,hup1⟩
 case round =>
  obtain⟨k,xs,hk,rfl,hown,hxs,hup⟩:=hrel
  have HX:=qh hxs
  clear hxs;by_cases hlt:k<l.length
  ·obtain⟨b,off,d,rfl,hlo,hb,hd,q0⟩:=(hr.up hup hhi).txt hlt
   have HD:=qh hd
   clear hd;obtain⟨u0,r0⟩:=own_cell hown (p:=k) (by omega)
   have z0:=hown.frozenAt k
   go_wp2;go_roundw
   case rel=>exact⟨k+1,_,by omega,by go_num,(hown.stored _ _).1,by rw[take_set_succ (by rw[hown.1];omega),HX.out,take_flat_succ _ HD.out],hup.setCell (by simp) _⟩
   case measure=>simp[intOf];omega
  ·go_wp2
   go_ret;have hk2:k=l.length:=by omega
   subst hk2;have hx:=HX.out
   rw[List.take_of_length_le (by rw[hown.1];omega),List.take_of_length_le (Nat.le_refl _)]at hx
   subst hx;exact⟨_,rfl,hown,hup⟩
def eqSs(l m:List ByteArray):Bool:=decide (l=m)
theorem eqSs_self(l:List ByteArray):eqSs l l=true:=by simp[eqSs]
theorem eqSs_len{l m:List ByteArray}(h:l.length≠m.length):eqSs l m=false:=by unfold eqSs;rw[decide_eq_false_iff_not];rintro rfl;exact h rfl
theorem eqSs_ne{l m:List ByteArray}{k:Nat}{a b:ByteArray}(ha:l[k]?=some a)(hb:m[k]?=some b)(h:(!a.toList==b.toList)=true):eqSs l m=false:=by
 unfold eqSs;rw[decide_eq_false_iff_not];rintro rfl
 rw[ha]at hb;cases hb
 simp at h
theorem eqSs_eq{l m:List ByteArray}(h:l.take l.length=m.take l.length)(hl:l.length=m.length):eqSs l m=true:=by
 unfold eqSs;rw[decide_eq_true_iff]
 rwa [List.take_of_length_le (Nat.le_refl _),hl,List.take_of_length_le (Nat.le_refl _)]at h
theorem eqStringS_any(A B:Option Addr)(l m:List ByteArray)(c c' lo hi lo' hi':Nat)(w:World)(hr:RdT w lo hi A l)(hhi:hi≤w.heap.size)(hr':RdT w lo' hi' B m)(hhi':hi'≤w.heap.size)(hn:l.length≤2000000) :
 Calls Tryz.prog 76 #[.slice A l.length c,.slice B m.length c'] w fun e w'=>e=.returned (.bool (eqSs l m))∧Up w w':=by
 by_cases hne:l.length=m.length
 ·have HL:=qh hne
  have hb0:((l.length:Int) != (m.length:Int))=false:=by simp[hne]
  have hlm:l.length≤m.length:=by omega
  clear hne;go_enter Tryz.func76,Tryz.ntmps76
  go_wp2;go_loopw [5] (fun i wr=>∃k:Nat,k≤l.length∧i=.int .i64 k∧l.take k=m.take k∧Up w wr) (fun i _=>l.length-(intOf i).toNat)
  case atStart=>exact⟨0,Nat.zero_le _,rfl,by simp,Up.refl _⟩
  case round =>
   obtain⟨k,hk,rfl,ht,hup⟩:=hrel
   have HT:=qh ht
   clear ht;by_cases hlt:k<l.length
   ·have hlt':k<m.length:=by omega
    obtain⟨b1,o1,d1,rfl,-,-,hd1,p0⟩:=(hr.up hup hhi).txt hlt
    obtain⟨b2,o2,d2,rfl,-,-,hd2,q0⟩:=(hr'.up hup hhi').txt hlt'
    have HD1:=qh hd1
    have HD2:=qh hd2
    clear hd1 hd2;have P0:=cell_regrown p0
    have Q0:=cell_regrown q0
    go_wp2_with fail
    refine wp_region_quiet_below (by kernel_rfl) (by kernel_rfl) ?_
    repeat (quiet_step (fail))
    refine wpQuiet_nil ?_
    intro w2 hw2
    obtain⟨⟨dq,osq⟩,hw2⟩:=hw2
    have hup2:Up wr w2:=by rw[hw2];exact below_regrown _ _ _
    clear hw2 P0 Q0;go_wp2
    ·have hq:(!d1.toList==d2.toList)=true:=by assumption
     go_ret;exact⟨ret_bool (eqSs_ne HD1.out HD2.out hq).symm,hup.trans hup2⟩
    ·have hq:(!d1.toList==d2.toList)=false:=by assumption
     have hq':d1=d2:=bytes_inj.1 (by simpa using hq)
     have HQ:=qh hq'
     clear hq';go_roundw
     case rel=>exact⟨k+1,by omega,by go_num,take_succ_eq HT.out HD1.out (by rw[HQ.out];exact HD2.out),hup.trans hup2⟩
     case measure=>simp[intOf];omega
   ·go_wp2
    go_ret;exact⟨ret_bool (eqSs_eq (by rw[show k=l.length by omega]at HT;exact HT.out) HL.out).symm,hup⟩
 ·have hb0:((l.length:Int) != (m.length:Int))=true:=by rw[bne_iff_ne];omega
  have H:=qh hne
  clear hne;go_enter Tryz.func76,Tryz.ntmps76
  go_wp2;go_ret;exact⟨ret_bool (eqSs_len H.out).symm,Up.refl _⟩
structure Fm where
 A:Option Addr
 c:Nat
 ws:List ByteArray
 fr:Int
 to_:Int
abbrev Fm.cells(x:Fm):List Value:=[.slice x.A x.ws.length x.c,.int .i64 x.fr,.int .i64 x.to_]
abbrev Fm.val(x:Fm):Value:=.agg #[.slice x.A x.ws.length x.c,.int .i64 x.fr,.int .i64 x.to_]
def Fm.p(x:Fm):List ByteArray × Int × Int:=(x.ws,x.fr,x.to_)
def Fm.ok'(x:Fm):Prop:=x.ws.length≤x.c∧x.c≤maxLen
def Fm.ok(x:Fm):Prop:=(∀s∈x.ws,s.size≤maxLen)∧x.ws.length≤x.c∧x.c≤maxLen
theorem fm_len(x:Fm):x.cells.length=3:=rfl
def RdF(w:World)(lo hi:Nat)(A:Option Addr)(l:List Fm):Prop:=Rd w lo hi 3 Fm.cells A l∧∀x∈l,RdT w lo hi x.A x.ws
theorem RdF.up{w w':World}{lo hi:Nat}{A:Option Addr}{l:List Fm}(h:RdF w lo hi A l)(hu:Up w w')(hB:hi≤w.heap.size):RdF w' lo hi A l :=
 ⟨h.1.up hu hB,fun x hx=>(h.2 x hx).up hu hB⟩
theorem RdF.at_{w:World}{lo hi:Nat}{A:Option Addr}{l:List Fm}(h:RdF w lo hi A l){k:Nat}(hk:k<l.length) :
 ∃b off x,A=some ⟨b,off,none⟩∧lo≤b∧b<hi∧l[k]?=some x∧RdT w lo hi x.A x.ws∧w.cell? ⟨b,off+k*3,none⟩=some (.slice x.A x.ws.length x.c)∧w.cell? ⟨b,off+k*3+1,none⟩=some (.int .i64 x.fr)∧w.cell? ⟨b,off+k*3+2,none⟩=some (.int .i64 x.to_):=by
 obtain⟨b,off,x,e,h1,h2,h3,h4⟩:=Rd.at_ h.1 hk
 exact⟨b,off,x,e,h1,h2,h3,h.2 x (List.mem_of_getElem? h3),h4 0 _ rfl,h4 1 _ rfl,h4 2 _ rfl⟩
theorem szFormula_any(x:Fm)(lo hi:Nat)(left:Int)(w:World)(hr:RdT w lo hi x.A x.ws)(hhi:hi≤w.heap.size)(hok:x.ok)(h0:0≤left)(hl:left≤2000000) :
 Calls Tryz.prog 46 #[x.val,.int .i64 left] w fun e w'=>e=.returned (.int .i64 (szSL x.ws left))∧Up w w':=by
 have hb:=Up.alloc w (.cells #[.slice x.A x.ws.length x.c,.int .i64 x.fr,.int .i64 x.to_] 115)
 have HS:=qh (szStringS_any x.A x.ws x.c lo hi left _ (hr.up hb hhi) hok.1 (Nat.le_trans hok.2.1 hok.2.2) h0 hl)
 have hle:=szSL_le x.ws left h0
 by_cases h1:szSL x.ws left<0
 ·have HE:=qh (hle.2 h1)
  have hle1:=hle.1
  clear hle hok;go_enter Tryz.func46,Tryz.ntmps46
  go_wp2_with (go_at_call 47;refine HS.out.mono ?_;rintro e w1 ⟨rfl,rfl⟩)
  go_ret;exact⟨ret_int HE.out.symm,hb⟩
 ·have hle1:=hle.1
  clear hle hok;go_enter Tryz.func46,Tryz.ntmps46
  go_wp2_with (go_at_call 47;refine HS.out.mono ?_;rintro e w1 ⟨rfl,rfl⟩)
  go_ret;exact⟨rfl,hb⟩
theorem toFormula_any(x:Fm)(lo hi:Nat)(w:World)(hr:RdT w lo hi x.A x.ws)(hhi:hi≤w.heap.size)(hn:x.ws.length≤2000000) :
 Calls Tryz.prog 61 #[x.val] w fun e w'=>∃y:Fm,e=.returned y.val∧y.p=x.p∧y.ok'∧w'.ownsRow w.heap.size 9 1 (.slice y.A y.ws.length y.c) y.ws.length (y.ws.flatMap strC)∧Up w w':=by
 go_enter Tryz.func61,Tryz.ntmps61
 go_wp2_with fail
 refine(toStringS_any x.A x.ws x.c lo hi _ (Rd.up hr ?hu hhi) ?hs hn).mono ?_
 case hu=>repeat (first|exact Up.alloc _ _|refine Up.allocs ?_ _)
 case hs=>simp;omega
 rintro e w2 ⟨v,rfl,hown,hup⟩
 obtain⟨A',c',rfl,h1,h2,-,-⟩:=own_form hown
 have q0:=hup.cell (a:=⟨w.heap.size,1,none⟩) (v:=.int .i64 x.fr) (by go_simp)
 have q1:=hup.cell (a:=⟨w.heap.size,2,none⟩) (v:=.int .i64 x.to_) (by go_simp)
 have r0:=hup.cell (a:=⟨w.heap.size+1,0,none⟩) (v:=.slice none 0 0) (by go_simp)
 have r1:=hup.cell (a:=⟨w.heap.size+1,1,none⟩) (v:=.int .i64 0) (by go_simp)
 have r2:=hup.cell (a:=⟨w.heap.size+1,2,none⟩) (v:=.int .i64 0) (by go_simp)
 have o0:=hup.cell (a:=⟨w.heap.size+1+1,0,none⟩) (v:=.slice none 0 0) (by go_simp)
 have o1:=hup.cell (a:=⟨w.heap.size+1+1,1,none⟩) (v:=.int .i64 0) (by go_simp)
 have o2:=hup.cell (a:=⟨w.heap.size+1+1,2,none⟩) (v:=.int .i64 0) (by go_simp)
 have f0:w2.frozen? ⟨w.heap.size+1,0,none⟩=false:=(Below.frozen hup (p:=⟨w.heap.size+1,0,none⟩) (by simp)).trans (by go_simp)
 have f1:w2.frozen? ⟨w.heap.size+1,1,none⟩=false:=(Below.frozen hup (p:=⟨w.heap.size+1,1,none⟩) (by simp)).trans (by go_simp)
 have f2:w2.frozen? ⟨w.heap.size+1,2,none⟩=false:=(Below.frozen hup (p:=⟨w.heap.size+1,2,none⟩) (by simp)).trans (by go_simp)
 have g0:w2.frozen? ⟨w.heap.size+1+1,0,none⟩=false:=(Below.frozen hup (p:=⟨w.heap.size+1+1,0,none⟩) (by simp)).trans (by go_simp)
 have g1:w2.frozen? ⟨w.heap.size+1+1,1,none⟩=false:=(Below.frozen hup (p:=⟨w.heap.size+1+1,1,none⟩) (by simp)).trans (by go_simp)
 have g2:w2.frozen? ⟨w.heap.size+1+1,2,none⟩=false:=(Below.frozen hup (p:=⟨w.heap.size+1+1,2,none⟩) (by simp)).trans (by go_simp)
 have hsz:w.heap.size+3≤w2.heap.size:=by have:=hup.size;simp at this;omega
 have hwu:Up w w2:=Up.trans (by repeat (first|exact Up.alloc _ _|refine Up.allocs ?_ _)) hup
 have hown1:=own_base (base':=w.heap.size+3) hown (by simp)
 clear hup hown;go_wp2;refine bodyPost_ret (v:=(Fm.mk A' c' x.ws x.fr x.to_).val) (by simp[results,Tryz.results61,go_sem,r0,r1,r2]) rfl ⟨⟨A',c',x.ws,x.fr,x.to_⟩,rfl,rfl,⟨h1,h2⟩,own_base (base:=w.heap.size+3) ?_ (by omega),?_⟩
 ·iterate 6 refine ownsRow_setCell_below ?_ (by first|(simp;done)|(simp;omega)) _
  exact hown1
 ·iterate 6 refine Up.setCell ?_ (by first|(simp;done)|(simp;omega)) _
  exact hwu
def eqF(a b:Fm):Bool:=decide (a.p=b.p)
theorem eqF_a{a b:Fm}(h:eqSs a.ws b.ws=false):eqF a b=false:=by
 unfold eqF;rw[decide_eq_false_iff_not];intro e
 have:a.ws=b.ws:=congrArg Prod.fst e
 rw[this,eqSs_self]at h;cases h
theorem eqF_b{a b:Fm}(h:(a.fr != b.fr)=true):eqF a b=false:=by
 unfold eqF;rw[decide_eq_false_iff_not];intro e
 have:a.fr=b.fr:=congrArg (fun x=>x.2.1) e
 rw[this]at h;simp at h
theorem eqF_c{a b:Fm}(h:(a.to_ != b.to_)=true):eqF a b=false:=by
 unfold eqF;rw[decide_eq_false_iff_not];intro e
 have:a.to_=b.to_:=congrArg (fun x=>x.2.2) e
 rw[this]at h;simp at h
theorem eqF_0{a b:Fm}(h:eqSs a.ws b.ws=true)(h1:(a.fr != b.fr)=false)(h2:(a.to_ != b.to_)=false):eqF a b=true:=by
 unfold eqF;rw[decide_eq_true_iff];unfold Fm.p
 unfold eqSs at h
 rw[of_decide_eq_true h,show a.fr=b.fr by simpa using h1,show a.to_=b.to_ by simpa using h2]
theorem eqFormula_any(a b:Fm)(lo hi lo' hi':Nat)(w:World)(hr:RdT w lo hi a.A a.ws)(hhi:hi≤w.heap.size)(hr':RdT w lo' hi' b.A b.ws)(hhi':hi'≤w.heap.size)(hn:a.ws.length≤2000000) :
 Calls Tryz.prog 75 #[a.val,b.val] w fun e w'=>e=.returned (.bool (eqF a b))∧Up w w':=by
 have hub:=(Up.alloc w (.cells #[.slice a.A a.ws.length a.c,.int .i64 a.fr,.int .i64 a.to_] 130)).allocs (.cells #[.slice b.A b.ws.length b.c,.int .i64 b.fr,.int .i64 b.to_] 130)
 have hq:=eqStringS_any a.A b.A a.ws b.ws a.c b.c lo hi lo' hi' _ (hr.up hub hhi) (Nat.le_trans hhi hub.size) (hr'.up hub hhi') (Nat.le_trans hhi' hub.size) hn
 obtain⟨bb,hbb⟩:∃x,x=eqSs a.ws b.ws:=⟨_,rfl⟩
 rw[← hbb]at hq;have HQ:=qh hq
 have HB:=qh hbb.symm
 clear hq hbb;cases bb
 ·have HE:=qh (eqF_a HB.out)
  go_enter Tryz.func75,Tryz.ntmps75
  go_wp2_with fail
  refine HQ.out.mono ?_
  rintro e w1 ⟨rfl,hup⟩
  go_wp2;go_ret;exact⟨ret_bool HE.out.symm,hub.trans hup⟩
 ·rcases h1:a.fr != b.fr with _|_
  ·rcases h2:a.to_ != b.to_ with _|_
   ·have HE:=qh (eqF_0 HB.out h1 h2)
    go_enter Tryz.func75,Tryz.ntmps75
    go_wp2_with fail
    refine HQ.out.mono ?_
    rintro e w1 ⟨rfl,hup⟩
    have c1:=hup.cell (a:=⟨w.heap.size,1,none⟩) (v:=.int .i64 a.fr) (by go_simp)
    have c2:=hup.cell (a:=⟨w.heap.size,2,none⟩) (v:=.int .i64 a.to_) (by go_simp)
    have d1:=hup.cell (a:=⟨w.heap.size+1,1,none⟩) (v:=.int .i64 b.fr) (by go_simp)
    have d2:=hup.cell (a:=⟨w.heap.size+1,2,none⟩) (v:=.int .i64 b.to_) (by go_simp)
    go_wp2;go_ret;exact⟨ret_bool HE.out.symm,hub.trans hup⟩
   ·have HE:=qh (eqF_c h2)
    go_enter Tryz.func75,Tryz.ntmps75
    go_wp2_with fail
    refine HQ.out.mono ?_
    rintro e w1 ⟨rfl,hup⟩
    have c1:=hup.cell (a:=⟨w.heap.size,1,none⟩) (v:=.int .i64 a.fr) (by go_simp)
    have c2:=hup.cell (a:=⟨w.heap.size,2,none⟩) (v:=.int .i64 a.to_) (by go_simp)
    have d1:=hup.cell (a:=⟨w.heap.size+1,1,none⟩) (v:=.int .i64 b.fr) (by go_simp)
    have d2:=hup.cell (a:=⟨w.heap.size+1,2,none⟩) (v:=.int .i64 b.to_) (by go_simp)
    go_wp2;go_ret;exact⟨ret_bool HE.out.symm,hub.trans hup⟩
  ·have HE:=qh (eqF_b h1)
   go_enter Tryz.func75,Tryz.ntmps75
   go_wp2_with fail
   refine HQ.out.mono ?_
   rintro e w1 ⟨rfl,hup⟩
   have c1:=hup.cell (a:=⟨w.heap.size,1,none⟩) (v:=.int .i64 a.fr) (by go_simp)
   have d1:=hup.cell (a:=⟨w.heap.size+1,1,none⟩) (v:=.int .i64 b.fr) (by go_simp)
   go_wp2;go_ret;exact⟨ret_bool HE.out.symm,hub.trans hup⟩
def szFs:List Fm→Int→Int
 | [],z=>z
 | d :: l,z=>if szSL d.ws z<0 then -1 else szFs l (szSL d.ws z)
def szFL(l:List Fm)(left:Int):Int:=if left<l.length then -1 else szFs l (left-l.length)
theorem szFL_a{l:List Fm}{left:Int}(h:left<l.length):szFL l left=-1:=by unfold szFL;rw[if_pos h]
theorem szFL_b{l:List Fm}{left:Int}(h:¬ left<l.length):szFL l left=szFs l (left-l.length):=by unfold szFL;rw[if_neg h]
theorem szFs_yes{l:List Fm}{k:Nat}{d:Fm}{z:Int}(hd:l[k]?=some d)(h:¬ szSL d.ws z<0):szFs (l.drop k) z=szFs (l.drop (k+1)) (szSL d.ws z):=by
 obtain⟨hk,e⟩:=List.getElem?_eq_some_iff.1 hd
 rw[List.drop_eq_getElem_cons hk,e];simp only[szFs];rw[if_neg h]
theorem szFs_no{l:List Fm}{k:Nat}{d:Fm}{z:Int}(hd:l[k]?=some d)(h:szSL d.ws z<0):szFs (l.drop k) z=-1:=by
 obtain⟨hk,e⟩:=List.getElem?_eq_some_iff.1 hd
 rw[List.drop_eq_getElem_cons hk,e];simp only[szFs];rw[if_pos h]
theorem szFs_end{l:List Fm}{k:Nat}{z:Int}(h:l.length≤k):szFs (l.drop k) z=z:=by rw[List.drop_eq_nil_of_le h];rfl
theorem szFormulaS_any(A:Option Addr)(l:List Fm)(c lo hi:Nat)(left:Int)(w:World)(hr:RdF w lo hi A l)(hhi:hi≤w.heap.size)(hok:∀d∈l,d.ok)(h0:0≤left)(hl:left≤2000000)(hn:l.length≤maxLen) :
 Calls Tryz.prog 15 #[.slice A l.length c,.int .i64 left] w fun e w'=>e=.returned (.int .i64 (szFL l left))∧Up w w':=by
 unfold maxLen at hn
 by_cases c1:left<l.length
 ·go_enter Tryz.func15,Tryz.ntmps15
  go_wp2;go_ret;exact⟨ret_int (szFL_a (by omega)).symm,Up.refl _⟩
 ·go_enter Tryz.func15,Tryz.ntmps15
  have hb0:decide (left-(l.length:Int)<0)=false:=by simp;omega
  go_wp2;go_loopw [4,1,5] (fun r lf i wr=>∃k:Nat,∃z:Int,k≤l.length∧i=.int .i64 k∧lf=.int .i64 z∧0≤z∧z≤left∧szFs l (left-l.length)=szFs (l.drop k) z∧Up w wr) (fun _ _ i _=>l.length-(intOf i).toNat)
  case atStart=>exact⟨0,_,Nat.zero_le _,rfl,rfl,by omega,by omega,rfl,Up.refl _⟩
  case round =>
   obtain⟨k,z,hk,rfl,rfl,hz0,hz1,hs,hup⟩:=hrel
   have HS:=qh hs
   clear hs;by_cases hlt:k<l.length
   ·obtain⟨b,off,d,rfl,hlo,hb,hd,hin,q0,q1,q2⟩:=(hr.up hup hhi).at_ hlt
    have HD:=qh hd
    have hcall:=fun(wx:World) (hx:Up wr wx)=>szFormula_any d lo hi z wx (hin.up hx (Nat.le_trans hhi hup.size)) (Nat.le_trans (Nat.le_trans hhi hup.size) hx.size) (hok d (List.mem_of_getElem? HD.out)) (by omega) (by omega)
    clear hd hin;have hle:=(szSL_le d.ws z hz0).1
    by_cases c2:szSL d.ws z<0
    ·have hdec:decide (szSL d.ws z<0)=true:=by simpa using c2
     go_wp2_with (go_at_call 46;refine(hcall _ (by first|exact Up.refl _|exact Up.alloc _ _)).mono ?_;rintro e w' ⟨rfl,hup'⟩)
     go_ret;exact⟨ret_int (by rw[szFL_b (by omega),HS.out,szFs_no HD.out (by omega)]),hup.trans hup'⟩
    ·have hdec:decide (szSL d.ws z<0)=false:=by simpa using c2
     go_wp2_with (go_at_call 46;refine(hcall _ (by first|exact Up.refl _|exact Up.alloc _ _)).mono ?_;rintro e w' ⟨rfl,hup'⟩)
     go_roundw
     case rel=>exact⟨k+1,_,by omega,by go_num,rfl,by omega,by omega,by rw[HS.out,szFs_yes HD.out (by omega)],hup.trans hup'⟩
     case measure=>simp[intOf];omega
   ·go_wp2
    go_ret;exact⟨ret_int (by rw[szFL_b (by omega),HS.out,szFs_end (by omega)]),hup⟩
theorem infoFm:(Tryz.prog.info? 130).map (fun i=>(i.zero,i.size,i.bytes))=some (some (.agg #[.slice none 0 0,.int .i64 0,.int .i64 0]),3,40):=by kernel_rfl
abbrev Fm.sl(x:Fm):Value:=.slice x.A x.ws.length x.c
def DistF(L:List Fm):Prop:=∀(i j:Nat) (x y:Fm),i<j→L[i]?=some x→L[j]?=some y→∀b,x.sl.ownBlock=some b→y.sl.ownBlock≠some b
theorem DistF.nil_:DistF []:=fun i j x y _ h=>by simp at h
theorem DistF.snoc{L:List Fm}{y:Fm}(h:DistF L)(hy:∀x∈L,∀b,x.sl.ownBlock=some b→y.sl.ownBlock≠some b):DistF (L++[y]):=by
 intro i j x z hij hi hj b hb
 rcases Nat.lt_or_ge j L.length with h1|h1
 ·rw[List.getElem?_append_left h1]at hj
  rw[List.getElem?_append_left (by omega)]at hi
  exact h i j x z hij hi hj b hb
 ·have hj':j=L.length:=by
   have:=(List.getElem?_eq_some_iff.1 hj).1
   simp at this;omega
  subst hj'
  rw[List.getElem?_append_left hij]at hi;rw[List.getElem?_append_right (Nat.le_refl _)]at hj;simp at hj;subst hj
  exact hy x (List.mem_of_getElem? hi) b hb
def OwnF(w:World)(g0:Nat)(A:Option Addr)(n c:Nat)(L:List Fm):Prop :=
 ∃g,g0≤g∧w.ownsRow g 130 3 (.slice A n c) n (L.flatMap Fm.cells)∧(∀y∈L,y.ok'∧w.ownsRow (g+1) 9 1 y.sl y.ws.length (y.ws.flatMap strC))∧DistF L∧In (.slice A n c) g (g+1)
theorem fm_set3{xs:List Value}{L:List Fm}{k:Nat}{y:Fm}{n:Nat}(hx:xs.length=n*3)(hk:k<n)(ht:xs.take (k*3)=L.flatMap Fm.cells) :
 (((xs.set (k*3) y.sl).set (k*3+1) (.int .i64 y.fr)).set (k*3+2) (.int .i64 y.to_)).take ((k+1)*3)=(L++[y]).flatMap Fm.cells:=by
 rw[show(k+1)*3=k*3+2+1 by omega,take_set_succ (by simp;omega),take_set_succ (by simp;omega),take_set_succ (by omega),ht]
 simp
theorem toFormulaS_any(A:Option Addr)(l:List Fm)(c lo hi:Nat)(w:World)(hr:RdF w lo hi A l)(hhi:hi≤w.heap.size)(hn:l.length≤2000000)(hrs:∀x∈l,x.ws.length≤2000000) :
 Calls Tryz.prog 25 #[.slice A l.length c] w fun e w'=>∃A' c' L,e=.returned (.slice A' l.length c')∧L.length=l.length∧L.map Fm.p=l.map Fm.p∧l.length≤c'∧c'≤maxLen∧OwnF w' w.heap.size A' l.length c' L∧Up w w':=by
 obtain⟨i0,hi0,hz0,hz1,hz2⟩:=info_parts infoFm
 go_enter Tryz.func25,Tryz.ntmps25
 go_wp2_with ((refine wpList_make_full _ rfl _ _ 61 rfl w.heap.size 130 i0 _ 3 Tryz.underlying61 hi0 hz0 hz1 _ _ _ _ l.length rfl rfl rfl rfl ?b2 ?b3 ?b4 ?_))
 case b2=>rw[hz2];omega
 case b3=>unfold maxLen;omega
 case b4=>exact Nat.le_refl _
 intro w1 hown hg
 have hup1:Up w w1:=(Up.refl w).grown hg (fun k h=>by cases h)
 generalize (madeCells _ _).toList=xs0 at hown
 clear hg;go_wp2;go_loopw [4] (fun i wr=>∃k:Nat,∃xs,∃L:List Fm,k≤l.length∧i=.int .i64 k∧L.length=k∧wr.ownsRow w.heap.size 130 3 (.slice (some ⟨w.heap.size,0,none⟩) l.length l.length) l.length xs∧xs.take (k*3)=L.flatMap Fm.cells∧L.map Fm.p=(l.take k).map Fm.p ∧
  (∀y∈L,y.ok'∧wr.ownsRow (w.heap.size+1) 9 1 y.sl y.ws.length (y.ws.flatMap strC))∧DistF L∧Up w wr) (fun i _=>l.length-(intOf i).toNat)
 case atStart=>exact⟨0,_,[],Nat.zero_le _,rfl,rfl,hown,by simp,by simp,by simp,DistF.nil_,hup1⟩
 case round =>
  obtain⟨k,xs,L,hk,rfl,hL,hown,hxs,hmap,hin,hdis,hup⟩:=hrel
  have HX:=qh hxs
  have HL:=qh hL
  have HM:=qh hmap
  have HIN:=qh hin
  have HDI:=qh hdis
  clear hxs hL hmap hin hdis;by_cases hlt:k<l.length
  ·obtain⟨b,off,d,rfl,hlo,hb,hd,hrd,q0,q1,q2⟩:=(hr.up hup hhi).at_ hlt
   have HD:=qh hd
   clear hd;have hgs:w.heap.size<wr.heap.size:=by
    obtain⟨A',c',hv,-,-,hA,-⟩:=own_form hown
    simp only[Value.slice.injEq]at hv
    obtain⟨rfl,-,-⟩:=hv
    obtain⟨g',e,-,h⟩:=hA (by omega)
    cases e;exact h
   go_wp2_with (go_at_call 61;refine(toFormula_any d lo hi _ hrd (Nat.le_trans hhi hup.size) (hrs d (List.mem_of_getElem? HD.out))).mono ?_;rintro e w' ⟨y,rfl,hyp,hyo,hyw,hup'⟩;have HY:=qh hyp;clear hyp;have hown':=own_up hown hup';obtain⟨u0,r0⟩:=own_cell hown' (p:=k*3) (by omega);obtain⟨u1,r1⟩:=own_cell hown' (p:=k*3+1) (by omega);obtain⟨u2,r2⟩:=own_cell hown' (p:=k*3+2) (by omega);have z0:=hown'.frozenAt (k*3);have z1:=hown'.frozenAt (k*3+1);have z2:=hown'.frozenAt (k*3+2))
   go_roundw
   case rel=>exact⟨k+1,_,L++[y],by omega,by go_num,by rw[List.length_append,HL.out];rfl,(((hown'.stored _ _).1.stored _ _).1.stored _ _).1,fm_set3 hown'.1 hlt HX.out,
    by rw[List.map_append,HM.out,List.take_succ_eq_append_getElem hlt,List.map_append,(List.getElem?_eq_some_iff.1 HD.out).2];simp[HY.out],
    fun z hz=>by
     rcases List.mem_append.1 hz with h|h
     ·have h1:=HIN.out z h
      exact⟨h1.1,ownsRow_setCell_below (ownsRow_setCell_below (ownsRow_setCell_below (own_up h1.2 hup') (by simp) _) (by simp) _) (by simp) _⟩
     ·simp at h;subst h
      exact⟨hyo,ownsRow_setCell_below (ownsRow_setCell_below (ownsRow_setCell_below (own_base hyw hgs) (by simp) _) (by simp) _) (by simp) _⟩,
    HDI.out.snoc (fun x hx b hb hb'=>by
     have h1:=((HIN.out x hx).2.lt b hb).2
     have h2:=(hyw.lt b hb').1
     omega),
    (((hup.trans hup').setCell (by simp) _).setCell (by simp) _).setCell (by simp) _⟩
   case measure=>simp[intOf];omega
  ·go_wp2
   go_ret;have hk2:k=l.length:=by omega
   have hx:=HX.out
   have hm:=HM.out
   rw[hk2]at hx hm;rw[List.take_of_length_le (by rw[hown.1];omega)]at hx
   rw[List.take_of_length_le (Nat.le_refl _)]at hm;subst hx;exact⟨_,_,L,rfl,by rw[HL.out,hk2],hm,Nat.le_refl _,by unfold maxLen;omega,⟨w.heap.size,Nat.le_refl _,hown,HIN.out,HDI.out,fun g hg=>by simp[Value.ownBlock]at hg;omega⟩,hup⟩
theorem OwnF.up{w w':World}{g0 n c:Nat}{A:Option Addr}{L:List Fm}(h:OwnF w g0 A n c L)(hu:Up w w'):OwnF w' g0 A n c L:=by
 obtain⟨g,h1,h2,h3,h4,h5⟩:=h
 exact⟨g,h1,own_up h2 hu,fun y hy=>⟨(h3 y hy).1,own_up (h3 y hy).2 hu⟩,h4,h5⟩
theorem OwnF.rd{w:World}{g0 c:Nat}{A:Option Addr}{L:List Fm}(h:OwnF w g0 A L.length c L):RdF w g0 w.heap.size A L:=by
 obtain⟨g,h1,h2,h3,-,-⟩:=h
 exact⟨(Rd.own fm_len h2).wide h1 (Nat.le_refl _),fun x hx=>(Rd.own strC_len (h3 x hx).2).wide (by omega) (Nat.le_refl _)⟩
theorem szFs_len:∀(l:List Fm) (z:Int),0≤z→¬ szFs l z<0→szFs l z≤z∧∀x∈l,(x.ws.length:Int)≤z
 | [],z,_,_=>⟨Int.le_refl _,by simp⟩
 | d :: l,z,h0,h=>by
   simp only[szFs]at h ⊢
   by_cases hd:szSL d.ws z<0
   ·rw[if_pos hd]at h;exact absurd (by omega) h
   ·rw[if_neg hd]at h ⊢
    have h1:=szSL_le d.ws z h0
    have h2:=szSL_len h0 hd
    have h3:=szFs_len l _ (by omega) h
    refine⟨by omega,fun x hx=>?_⟩
    rcases List.mem_cons.1 hx with rfl|hx
    ·exact h2
    ·have:=h3.2 x hx;omega
theorem szFL_len{l:List Fm}{z:Int}(_h0:0≤z)(h:¬ szFL l z<0):szFL l z≤z∧(l.length:Int)≤z∧∀x∈l,(x.ws.length:Int)≤z:=by
 by_cases c1:z<l.length
 ·rw[szFL_a c1]at h;exact absurd (by omega) h
 ·rw[szFL_b c1]at h ⊢
  have h1:=szFs_len l (z-l.length) (by omega) h
  refine⟨by omega,by omega,fun x hx=>?_⟩
  have:=h1.2 x hx;omega
def eqFs(L M:List Fm):Bool:=decide (L.map Fm.p=M.map Fm.p)
theorem eqFs_len{l m:List Fm}(h:l.length≠m.length):eqFs l m=false:=by unfold eqFs;rw[decide_eq_false_iff_not];intro e;apply h;simpa using congrArg List.length e
theorem eqFs_ne{l m:List Fm}{k:Nat}{a b:Fm}(ha:l[k]?=some a)(hb:m[k]?=some b)(h:eqF a b=false):eqFs l m=false:=by
 unfold eqFs;rw[decide_eq_false_iff_not];intro e
 have e2:(l.map Fm.p)[k]?=(m.map Fm.p)[k]?:=by rw[e]
 rw[List.getElem?_map,List.getElem?_map,ha,hb]at e2;simp only[Option.map_some,Option.some.injEq]at e2
 simp[eqF,e2]at h
theorem eqFs_eq{l m:List Fm}(h:(l.take l.length).map Fm.p=(m.take l.length).map Fm.p)(hl:l.length=m.length):eqFs l m=true:=by
 unfold eqFs;rw[decide_eq_true_iff]
 rwa [List.take_of_length_le (Nat.le_refl _),hl,List.take_of_length_le (Nat.le_refl _)]at h
theorem eqFs_self{l m:List Fm}(h:l.map Fm.p=m.map Fm.p):eqFs l m=true:=by simp[eqFs,h]
theorem take_succ_mapF{l m:List Fm}{k:Nat}{a b:Fm}(h:(l.take k).map Fm.p=(m.take k).map Fm.p)(ha:l[k]?=some a)(hb:m[k]?=some b)(hab:eqF a b=true):(l.take (k+1)).map Fm.p=(m.take (k+1)).map Fm.p:=by
 rw[List.take_succ_eq_append_getElem (List.getElem?_eq_some_iff.1 ha).1,List.take_succ_eq_append_getElem (List.getElem?_eq_some_iff.1 hb).1,List.map_append,List.map_append,h,(List.getElem?_eq_some_iff.1 ha).2,(List.getElem?_eq_some_iff.1 hb).2];simp only[eqF,decide_eq_true_eq]at hab
 simp[hab]
theorem eqFormulaS_any(A B:Option Addr)(l m:List Fm)(c c' lo hi lo' hi':Nat)(w:World)(hr:RdF w lo hi A l)(hhi:hi≤w.heap.size)(hr':RdF w lo' hi' B m)(hhi':hi'≤w.heap.size)(hm:m.length≤2000000)(hrs:∀x∈l,x.ws.length≤2000000) :
 Calls Tryz.prog 34 #[.slice A l.length c,.slice B m.length c'] w fun e w'=>e=.returned (.bool (eqFs l m))∧Up w w':=by
 by_cases hne:l.length=m.length
 ·have HL:=qh hne
  have hb0:((l.length:Int) != (m.length:Int))=false:=by simp[hne]
  have hlm:l.length≤m.length:=by omega
  clear hne;go_enter Tryz.func34,Tryz.ntmps34
  go_wp2;go_loopw [5] (fun i wr=>∃k:Nat,k≤l.length∧i=.int .i64 k∧(l.take k).map Fm.p=(m.take k).map Fm.p∧Up w wr) (fun i _=>l.length-(intOf i).toNat)
  case atStart=>exact⟨0,Nat.zero_le _,rfl,by simp,Up.refl _⟩
  case round =>
   obtain⟨k,hk,rfl,ht,hup⟩:=hrel
   have HT:=qh ht
   clear ht;by_cases hlt:k<l.length
   ·have hlt':k<m.length:=by omega
    obtain⟨b1,o1,d1,rfl,-,-,hd1,i1,p0,p1,p2⟩:=(hr.up hup hhi).at_ hlt
    obtain⟨b2,o2,d2,rfl,-,-,hd2,i2,q0,q1,q2⟩:=(hr'.up hup hhi').at_ hlt'
    have HD1:=qh hd1
    have HD2:=qh hd2
    have I1:=qh i1
    have I2:=qh i2
    clear hd1 hd2 i1 i2;have hh1:hi≤wr.heap.size:=Nat.le_trans hhi hup.size
    have hh2:hi'≤wr.heap.size:=Nat.le_trans hhi' hup.size
    have P0:=cell_regrown p0
    have P1:=cell_regrown p1
    have P2:=cell_regrown p2
    have Q0:=cell_regrown q0
    have Q1:=cell_regrown q1
    have Q2:=cell_regrown q2
    go_wp2_with fail
    refine wp_region_quiet_below (by kernel_rfl) (by kernel_rfl) ?_
    repeat (quiet_step ((go_at_call 75;exact Calls.regrown_of (eqFormula_any d1 d2 lo hi lo' hi' _ (I1.out.up (below_regrown _ _ _) hh1) (Nat.le_trans hh1 (below_regrown _ _ _).size) (I2.out.up (below_regrown _ _ _) hh2) (Nat.le_trans hh2 (below_regrown _ _ _).size) (hrs d1 (List.mem_of_getElem? HD1.out))))))
    refine wpQuiet_nil ?_
    intro w2 hw2
    obtain⟨⟨dq,osq⟩,hw2⟩:=hw2
    have hup2:Up wr w2:=by rw[hw2];exact below_regrown _ _ _
    clear hw2 P0 P1 P2 Q0 Q1 Q2;go_wp2
    ·have hq:(!eqF d1 d2)=true:=by assumption
     go_ret;exact⟨ret_bool (eqFs_ne HD1.out HD2.out (by simpa using hq)).symm,hup.trans hup2⟩
    ·have hq:(!eqF d1 d2)=false:=by assumption
     go_roundw
     case rel=>exact⟨k+1,by omega,by go_num,take_succ_mapF HT.out HD1.out HD2.out (by simpa using hq),hup.trans hup2⟩
     case measure=>simp[intOf];omega
   ·go_wp2
    go_ret;exact⟨ret_bool (eqFs_eq (by rw[show k=l.length by omega]at HT;exact HT.out) HL.out).symm,hup⟩
 ·have hb0:((l.length:Int) != (m.length:Int))=true:=by rw[bne_iff_ne];omega
  have H:=qh hne
  clear hne;go_enter Tryz.func34,Tryz.ntmps34
  go_wp2;go_ret;exact⟨ret_bool (eqFs_len H.out).symm,Up.refl _⟩
end Go.Proofs.YtihcmhmanfobcaaGreatDoor
namespace Go.Proofs.YtihcmhmanfobcaaGreatDoor
open Go.RowKit
structure Rw where
 e:TypeId
 sz:Nat
 v:Value
 n:Nat
 xs:List Value
def Rw.own(w:World)(base:Nat)(r:Rw):Prop:=w.ownsRow base r.e r.sz r.v r.n r.xs
def Ap(a b:Rw):Prop:=∀g,a.v.ownBlock=some g→b.v.ownBlock≠some g
theorem Ap.symm{a b:Rw}(h:Ap a b):Ap b a:=fun g hg e=>h g e hg
structure OwA (w:World) (base:Nat) (L:List Rw):Prop where
 each:∀r∈L,r.own w base
 ap:L.Pairwise Ap
theorem OwA.nil_(w:World)(base:Nat):OwA w base []:=⟨by simp,.nil⟩
theorem OwA.up{w w':World}{base:Nat}{L:List Rw}(h:OwA w base L)(u:Up w w'):OwA w' base L:=⟨fun r hr=>own_up (h.each r hr) u,h.ap⟩
theorem OwA.base{w:World}{b b':Nat}{L:List Rw}(h:OwA w b L)(k:b'≤b):OwA w b' L:=⟨fun r hr=>own_base (h.each r hr) k,h.ap⟩
theorem OwA.put{w:World}{b:Nat}{L:List Rw}(h:OwA w b L){p:Addr}(hp:p.block<b)(v:Value):OwA (w.setCell p v) b L:=⟨fun r hr=>ownsRow_setCell_below (h.each r hr) hp v,h.ap⟩
theorem OwA.lt{w:World}{base:Nat}{L:List Rw}(h:OwA w base L){r:Rw}(hr:r∈L){g:Nat}(hg:r.v.ownBlock=some g):base≤g∧g<w.heap.size:=(h.each r hr).lt g hg
theorem OwA.sub{w:World}{base:Nat}{L M:List Rw}(h:OwA w base L)(s:M.Sublist L):OwA w base M:=⟨fun r hr=>h.each r (s.subset hr),h.ap.sublist s⟩
theorem OwA.left{w:World}{base:Nat}{L M:List Rw}(h:OwA w base (L++M)):OwA w base L:=h.sub (List.sublist_append_left L M)
theorem OwA.right{w:World}{base:Nat}{L M:List Rw}(h:OwA w base (L++M)):OwA w base M:=h.sub (List.sublist_append_right L M)
theorem OwA.one{w:World}{base:Nat}{r:Rw}(h:r.own w base):OwA w base [r]:=⟨by simpa using h,by simp⟩
theorem OwA.append{w w':World}{base:Nat}{L M:List Rw}(h:OwA w base L)(u:Up w w')(hb:base≤w.heap.size)(k:OwA w' w.heap.size M):OwA w' base (L++M):=by
 refine⟨fun r hr=>?_,List.pairwise_append.2 ⟨h.ap,k.ap,fun a ha b hb' g hg e=>?_⟩⟩
 ·rcases List.mem_append.1 hr with h1|h1
  ·exact own_up (h.each r h1) u
  ·exact own_base (k.each r h1) hb
 ·have h1:=(h.lt ha hg).2
  have h2:=(k.lt hb' e).1
  omega
structure MkA (w w':World) (L L':List Rw):Prop where
 os:w'.os=w.os
 tape:w'.tape=w.tape
 output:w'.output=w.output
 size:w.heap.size≤w'.heap.size
 block:∀g,g<w.heap.size→(∀r∈L,r.v.ownBlock≠some g)→w'.heap[g]?=w.heap[g]?
 same:L'.map (·.v)=L.map (·.v)
 each:∀base,OwA w base L→∀r∈L',r.own w' base
theorem pair_same{L L':List Rw}(h:L'.map (·.v)=L.map (·.v))(k:L.Pairwise Ap):L'.Pairwise Ap:=by
 have h1:(L.map (·.v)).Pairwise (fun a b=>∀g,a.ownBlock=some g→b.ownBlock≠some g):=List.pairwise_map.2 k
 rw[← h]at h1;have h2:L'.Pairwise (fun a b=>∀g,a.v.ownBlock=some g→b.v.ownBlock≠some g):=List.pairwise_map.1 h1
 exact h2
theorem MkA.own{w w':World}{L L':List Rw}(m:MkA w w' L L'){base:Nat}(h:OwA w base L):OwA w' base L':=⟨m.each base h,pair_same m.same h.ap⟩
theorem MkA.refl(w:World)(L:List Rw):MkA w w L L:=⟨rfl,rfl,rfl,Nat.le_refl _,fun _ _ _=>rfl,rfl,fun _ h r hr=>h.each r hr⟩
theorem MkA.up{w w':World}{L:List Rw}(u:Up w w'):MkA w w' L L:=⟨u.os,u.tape,u.output,u.size,fun g hg _=>u.block g hg,rfl,fun _ h r hr=>own_up (h.each r hr) u⟩
theorem mem_same{L L':List Rw}(h:L'.map (·.v)=L.map (·.v)){r:Rw}(hr:r∈L'):∃r0∈L,r0.v=r.v:=by
 have h1:r.v∈L.map (·.v):=by rw[← h];exact List.mem_map_of_mem hr
 obtain⟨r0,h0,e⟩:=List.mem_map.1 h1
 exact⟨r0,h0,e⟩
theorem MkA.trans{w w1 w2:World}{L L1 L2:List Rw}(m:MkA w w1 L L1)(k:MkA w1 w2 L1 L2):MkA w w2 L L2 :=
 ⟨k.os.trans m.os,k.tape.trans m.tape,k.output.trans m.output,Nat.le_trans m.size k.size,fun g hg hn=>by
  rw[k.block g (Nat.lt_of_lt_of_le hg m.size) (fun r hr e=>by
   obtain⟨r0,h0,e0⟩:=mem_same m.same hr
   exact hn r0 h0 (by rw[e0];exact e)),m.block g hg hn],k.same.trans m.same,fun base h=>k.each base (m.own h)⟩
theorem own_same{w w':World}{base:Nat}{e:TypeId}{size:Nat}{v:Value}{n:Nat}{xs:List Value}(h:w.ownsRow base e size v n xs)(hb:∀g,v.ownBlock=some g→w'.heap[g]?=w.heap[g]?):w'.ownsRow base e size v n xs:=by
 refine⟨h.1,?_⟩
 rcases h.2 with hn|⟨g,cap,cur,rfl,hg,hh,rest⟩
 ·exact .inl hn
 ·refine .inr ⟨g,cap,cur,rfl,hg,?_,rest⟩
  rw[hb g rfl];exact hh
theorem MkA.frame{w w':World}{L L':List Rw}(m:MkA w w' L L')(P R:List Rw):MkA w w' (P++L++R) (P++L'++R) :=
 ⟨m.os,m.tape,m.output,m.size,fun g hg hn=>m.block g hg (fun r hr=>hn r (by simp[hr])),by simp[m.same],fun base h r hr=>by
  have keep:∀r∈P++L++R,(∀q∈L,∀g,r.v.ownBlock=some g→q.v.ownBlock≠some g)→r.own w' base:=fun r hr hq =>
   own_same (h.each r hr) (fun g hg=>m.block g (h.lt hr hg).2 (fun q hqL=>hq q hqL g hg))
  obtain⟨hPL,-,hPLR⟩:=List.pairwise_append.1 h.ap
  obtain⟨-,-,hPL2⟩:=List.pairwise_append.1 hPL
  rcases List.mem_append.1 hr with h1|h1
  ·rcases List.mem_append.1 h1 with h2|h2
   ·exact keep r (by simp[h2]) (fun q hq=>hPL2 r h2 q hq)
   ·exact m.each base (h.left.right) r h2
  ·exact keep r (by simp[h1]) (fun q hq g hg e=>hPLR q (by simp[hq]) r h1 g e hg)⟩
theorem MkA.left{w w':World}{L L':List Rw}(m:MkA w w' L L')(R:List Rw):MkA w w' (L++R) (L'++R):=by simpa using m.frame [] R
theorem MkA.right{w w':World}{L L':List Rw}(m:MkA w w' L L')(P:List Rw):MkA w w' (P++L) (P++L'):=by simpa using m.frame P []
theorem MkA.both{w w1 w2:World}{L L' M M':List Rw}(m:MkA w w1 L L')(k:MkA w1 w2 M M'):MkA w w2 (L++M) (L'++M'):=(m.left M).trans (k.right L')
theorem MkA.leaf{w w':World}{base:Nat}{r:Rw}{ys:List Value}(_h:r.own w base)(h':w'.ownsRow base r.e r.sz r.v r.n ys)(hg:w.grownBy w' r.v.ownBlock):MkA w w' [r] [⟨r.e,r.sz,r.v,r.n,ys⟩] :=
 ⟨hg.os,hg.tape,hg.output,hg.size,fun g hl hn=>hg.block g hl (fun e=>hn r (by simp) e.symm),rfl,fun b hb q hq=>by
  simp only[List.mem_singleton]at hq
  subst hq;have h1:r.own w b:=hb.each r (by simp)
  refine⟨h'.1,?_⟩
  rcases h'.2 with hn|⟨g,cap,cur,hv,-,rest⟩
  ·exact .inl hn
  ·exact .inr ⟨g,cap,cur,hv,(World.ownsRow.lt h1 g (by rw[hv];rfl)).1,rest⟩⟩
theorem Up.trans_below{a b c:World}(h:Up a b)(k:Below a.heap.size b c):Up a c:=Below.trans h k
theorem Up.mka{a w w':World}{base:Nat}{L L':List Rw}(h:Up a w)(m:MkA w w' L L')(o:OwA w base L)(hb:a.heap.size≤base):Up a w' :=
 h.trans_below ⟨m.os,m.tape,m.output,m.size,fun g hg=>m.block g (Nat.lt_of_lt_of_le hg h.size) (fun r hr e=>by have:=(o.lt hr e).1;omega)⟩
theorem MkA.cell{w w':World}{base:Nat}{L L':List Rw}(m:MkA w w' L L')(o:OwA w base L){p:Addr}{v:Value}(h:w.cell? p=some v)(hp:p.block<base):w'.cell? p=some v:=by
 rw[World.cell?_of_block (m.block p.block (block_lt_of_cell h) (fun r hr e=>by have:=(o.lt hr e).1;omega))];exact h
end Go.Proofs.YtihcmhmanfobcaaGreatDoor
namespace Go.Proofs.YtihcmhmanfobcaaGreatDoor
open Go.RowKit Go.Sort
def digs:Nat→Nat→List UInt8
 | 0,_=>[]
 | f+1,n=>if n=0 then [] else digs f (n/10)++[48+UInt8.ofNat (n % 10)]
def mtext(k:Int):ByteArray:=⟨(109 :: digs 20 k.toNat).toArray⟩
theorem markText_any(k:Int)(w:World)(h0:1≤k)(hk:k≤100000000) :
 Calls Tryz.prog 82 #[.int .i64 k] w fun e w'=>e=.returned (.string (mtext k))∧Up w w':=by
 have hcv:=fun wx z=>run_conv1 (P:=Tryz.prog) Tryz.underlying207 Tryz.underlying5 Tryz.underlying9 wx z
 go_enter Tryz.func82,Tryz.ntmps82
 go_wp2;go_loopw [0,3] (fun q t wr=>∃n f:Nat,∃ds,q=.int .i64 n∧n≤100000000∧t=.string ⟨List.toArray ds⟩∧ds.length≤20-f∧f≤20∧n<10 ^ f∧digs 20 k.toNat=digs f n++ds∧Up w wr) (fun q _ _=>(intOf q).toNat)
 case atStart=>exact⟨k.toNat,20,[],by rw[Int.toNat_of_nonneg (by omega)],by omega,rfl,by simp,by omega,by omega,by simp,Up.refl _⟩
 case round =>
  obtain⟨n,f,ds,rfl,hn,rfl,hds,hf,hnf,hdig,hup⟩:=hrel
  have HD:=qh hdig
  have HN:=qh hnf
  clear hdig hnf;rcases Nat.eq_zero_or_pos n with rfl|hpos
  ·go_wp2
   go_ret;refine⟨?_,hup⟩
   have h1:mtext k=⟨(109 :: ds).toArray⟩:=by
    unfold mtext
    rw[HD.out];have:digs f 0=[]:=by cases f<;>simp[digs]
    rw[this];rfl
   rw[h1];exact congrArg (fun b=>Ending.returned (Value.string b)) (ByteArray.ext (by simp))
  ·rcases f with _|f
   ·exact absurd HN.out (by omega)
   ·go_wp2
    go_roundw
    case rel=>exact⟨n/10,f,(48+UInt8.ofNat (n % 10)) :: ds,by go_num,by omega,congrArg Value.string (ByteArray.ext (by simp)),by simp;omega,by omega,by have:=HN.out;rw[Nat.pow_succ]at this;omega,by rw[HD.out];simp[digs,Nat.pos_iff_ne_zero.1 hpos],hup.allocs _⟩
    case measure=>simp[intOf];omega
end Go.Proofs.YtihcmhmanfobcaaGreatDoor
