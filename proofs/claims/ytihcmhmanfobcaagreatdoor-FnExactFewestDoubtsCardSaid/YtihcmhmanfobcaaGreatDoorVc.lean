/- The law package's helpers over []int64, and markText. -/
import Derived.Test.YtihcmhmanfobcaaGreatDoorProg
import Derived.Test.YtihcmhmanfobcaaGreatDoorLib
import Derived.Deep.AppendLies
import Derived.StillTailTactics
set_option maxHeartbeats 4000000
set_option maxRecDepth 100000
namespace Go.Proofs.YtihcmhmanfobcaaGreatDoor
open Go.RowKit Go.Sort
abbrev intCells(z:Int):List Value:=[.int .i64 z]
abbrev RdI(w:World)(lo hi:Nat)(A:Option Addr)(l:List Int):Prop:=Rd w lo hi 1 intCells A l
theorem int_len(z:Int):(intCells z).length=1:=rfl
theorem Rd.int{w:World}{lo hi:Nat}{A:Option Addr}{l:List Int}(h:RdI w lo hi A l){k:Nat}(hk:k<l.length) :
 ∃b off z,A=some ⟨b,off,none⟩∧lo≤b∧b<hi∧l[k]?=some z∧w.cell? ⟨b,off+k,none⟩=some (.int .i64 z):=by
 obtain⟨b,off,d,e,h1,h2,h3,h4⟩:=Rd.at_ h hk
 have:=h4 0 _ rfl
 rw[Nat.mul_one]at this;exact⟨b,off,d,e,h1,h2,h3,this⟩
def eqIs(l m:List Int):Bool:=decide (l=m)
theorem eqIs_len{l m:List Int}(h:l.length≠m.length):eqIs l m=false:=by unfold eqIs;rw[decide_eq_false_iff_not];rintro rfl;exact h rfl
theorem eqIs_ne{l m:List Int}{k:Nat}{a b:Int}(ha:l[k]?=some a)(hb:m[k]?=some b)(h:(a != b)=true):eqIs l m=false:=by
 unfold eqIs;rw[decide_eq_false_iff_not];rintro rfl
 rw[ha]at hb;cases hb
 simp at h
theorem eqIs_eq{l m:List Int}(h:l.take l.length=m.take l.length)(hl:l.length=m.length):eqIs l m=true:=by
 unfold eqIs;rw[decide_eq_true_iff]
 rwa [List.take_of_length_le (Nat.le_refl _),hl,List.take_of_length_le (Nat.le_refl _)]at h
theorem eqIs_self(l:List Int):eqIs l l=true:=by simp[eqIs]
theorem eqInt64S_any(A B:Option Addr)(l m:List Int)(c c' lo hi lo' hi':Nat)(w:World)(hr:RdI w lo hi A l)(hhi:hi≤w.heap.size)(hr':RdI w lo' hi' B m)(hhi':hi'≤w.heap.size)(hn:l.length≤2000000) :
 Calls Tryz.prog 8 #[.slice A l.length c,.slice B m.length c'] w fun e w'=>e=.returned (.bool (eqIs l m))∧Up w w':=by
 by_cases hne:l.length=m.length
 ·have HL:=qh hne
  have hb0:((l.length:Int) != (m.length:Int))=false:=by simp[hne]
  have hlm:l.length≤m.length:=by omega
  clear hne;go_enter Tryz.func8,Tryz.ntmps8
  go_wp2;go_loopw [5] (fun i wr=>∃k:Nat,k≤l.length∧i=.int .i64 k∧l.take k=m.take k∧Up w wr) (fun i _=>l.length-(intOf i).toNat)
  case atStart=>exact⟨0,Nat.zero_le _,rfl,by simp,Up.refl _⟩
  case round =>
   obtain⟨k,hk,rfl,ht,hup⟩:=hrel
   have HT:=qh ht
   clear ht;by_cases hlt:k<l.length
   ·have hlt':k<m.length:=by omega
    obtain⟨b1,o1,d1,rfl,-,-,hd1,p0⟩:=(hr.up hup hhi).int hlt
    obtain⟨b2,o2,d2,rfl,-,-,hd2,q0⟩:=(hr'.up hup hhi').int hlt'
    have HD1:=qh hd1
    have HD2:=qh hd2
    clear hd1 hd2;have P0:=cell_regrown p0
    have Q0:=cell_regrown q0
    go_wp2_with fail
    refine wp_region_quiet_below (by kernel_rfl) (by kernel_rfl) ?_
    repeat (quiet_step (fail))
    refine wpQuiet_nil ?_
    intro w2 hw2
    obtain⟨⟨dq,osq⟩,hw2⟩:=hw2
    have hup2:Up wr w2:=by rw[hw2];exact below_regrown _ _ _
    clear hw2 P0 Q0;go_wp2
    ·have hq:(d1 != d2)=true:=by assumption
     go_ret;exact⟨ret_bool (eqIs_ne HD1.out HD2.out hq).symm,hup.trans hup2⟩
    ·have hq:(d1 != d2)=false:=by assumption
     go_roundw
     case rel=>exact⟨k+1,by omega,by go_num,take_succ_eq HT.out HD1.out (by rw[show d1=d2 by simpa using hq];exact HD2.out),hup.trans hup2⟩
     case measure=>simp[intOf];omega
   ·go_wp2
    go_ret;exact⟨ret_bool (eqIs_eq (by rw[show k=l.length by omega]at HT;exact HT.out) HL.out).symm,hup⟩
 ·have hb0:((l.length:Int) != (m.length:Int))=true:=by rw[bne_iff_ne];omega
  have H:=qh hne
  clear hne;go_enter Tryz.func8,Tryz.ntmps8
  go_wp2;go_ret;exact⟨ret_bool (eqIs_len H.out).symm,Up.refl _⟩
def mkI(k:Int)(n:Nat):List Int:=(List.range n).map fun(j:Nat)=>k+(j:Int)
theorem mkI_len(k:Int)(n:Nat):(mkI k n).length=n:=by simp[mkI]
theorem mkI_take{k:Int}{n j:Nat}(h:j<n):((mkI k n).take (j+1)).flatMap intCells=((mkI k n).take j).flatMap intCells++[.int .i64 (k+j)]:=by
 rw[take_flat_succ _ (x:=k+(j:Int)) (by simp[mkI,h])]
theorem mkI_get{k:Int}{n j:Nat}(h:j<n):(mkI k n)[j]?=some (k+(j:Int)):=by simp[mkI,h]
theorem heldInt64S_any(A:Option Addr)(n c lo hi:Nat)(k:Int)(w:World)(hr:RdI w lo hi A (mkI k n))(hn:n≤2000000)(h0:0≤k)(hk:k≤2000000) :
 Calls Tryz.prog 12 #[.slice A n c,.int .i64 k] w fun e w'=>e=.returned (.int .i64 (k+n))∧w=w':=by
 go_enter Tryz.func12,Tryz.ntmps12
 go_wp2;go_loop [1,4,5] (fun q u i=>∃j:Nat,j≤n∧i=.int .i64 j∧q=.int .i64 (k+j)) (fun _ _ i=>n-(intOf i).toNat)
 case atStart=>exact⟨0,Nat.zero_le _,rfl,by simp⟩
 case round =>
  obtain⟨j,hj,rfl,rfl⟩:=hrel
  by_cases hlt:j<n
  ·obtain⟨b,off,z,rfl,-,-,hz,q0⟩:=hr.int (k:=j) (by rw[mkI_len];exact hlt)
   rw[mkI_get hlt]at hz;obtain rfl:k+(j:Int)=z:=by simpa using hz
   clear hz;go_wp2;go_round
   case rel=>exact⟨j+1,by omega,by go_num,by go_num⟩
   case measure=>simp[intOf];omega
  ·go_wp2
   go_ret;exact⟨ret_int (by omega),rfl⟩
theorem markIntW_any(A:Option Addr)(n c base:Nat)(xs:List Value)(k:Int)(w:World)(hown:w.ownsRow base 2 1 (.slice A n c) n xs)(hn:n≤2000000)(h0:0≤k)(hk:k≤100000000) :
 Calls Tryz.prog 11 #[.slice A n c,.int .i64 k] w fun e w'=>e=.returned (.int .i64 (k+n))∧w'.ownsRow base 2 1 (.slice A n c) n ((mkI k n).flatMap intCells)∧w.grownBy w' (Value.slice A n c).ownBlock:=by
 go_enter Tryz.func11,Tryz.ntmps11
 go_wp2;go_loopw [1,5] (fun q i wr=>∃j:Nat,∃ys,j≤n∧i=.int .i64 j∧q=.int .i64 (k+j)∧wr.ownsRow base 2 1 (.slice A n c) n ys∧ys.take j=((mkI k n).take j).flatMap intCells∧w.grownBy wr (Value.slice A n c).ownBlock) (fun _ i _=>n-(intOf i).toNat)
 case atStart=>exact⟨0,xs,Nat.zero_le _,rfl,by simp,hown,by simp,World.grownBy.refl w _⟩
 case round =>
  obtain⟨j,ys,hj,rfl,rfl,hown,hys,hg⟩:=hrel
  have HY:=qh hys
  have HG:=qh hg
  clear hys hg;by_cases hlt:j<n
  ·obtain⟨A',c',hv,-,-,hA,-⟩:=own_form hown
   simp only[Value.slice.injEq]at hv
   obtain⟨rfl,-,rfl⟩:=hv
   obtain⟨g,rfl,-,-⟩:=hA (by omega)
   obtain⟨u0,r0⟩:=own_cell hown (p:=j) (by omega)
   have z0:=hown.frozenAt j
   go_wp2;go_roundw
   case rel=>exact⟨j+1,_,by omega,by go_num,by go_num,(hown.stored j _).1,by rw[take_set_succ (by rw[hown.1];omega),HY.out,mkI_take hlt],HG.out.trans (hown.stored j _).2⟩
   case measure=>simp[intOf];omega
  ·go_wp2
   go_ret;have e:j=n:=by omega
   subst e;have hx:=HY.out
   rw[List.take_of_length_le (by rw[hown.1];omega),List.take_of_length_le (by rw[mkI_len];exact Nat.le_refl _)]at hx
   subst hx;exact⟨rfl,hown,HG.out⟩
inductive Mk (b0 b1:Nat) (w:World):World→Prop
 | refl:Mk b0 b1 w w
 | step {w1 w2:World} {v:Value} (h:Mk b0 b1 w w1) (hg:w1.grownBy w2 v.ownBlock) (hb:In v b0 b1):Mk b0 b1 w w2
theorem Mk.size{b0 b1:Nat}{w w':World}(h:Mk b0 b1 w w'):w.heap.size≤w'.heap.size:=by
 induction h with
 | refl=>exact Nat.le_refl _
 | step h hg hb ih=>exact Nat.le_trans ih hg.size
theorem Mk.rd{α:Type}{w w':World}{lo hi size:Nat}{f:α→List Value}{A:Option Addr}{l:List α}{b0 b1:Nat}(m:Mk b0 b1 w w')(h:Rd w lo hi size f A l)(hhi:hi≤w.heap.size)(hd:hi≤b0∨b1≤lo):Rd w' lo hi size f A l:=by
 induction m with
 | refl=>exact h
 | step m hg hb ih=>exact Rd.grown ih hg (Nat.le_trans hhi m.size) hb hd
theorem Mk.own{w w':World}{base:Nat}{e:TypeId}{size:Nat}{v':Value}{n:Nat}{xs:List Value}{b0 b1 b0' b1':Nat}(m:Mk b0 b1 w w')(h:w.ownsRow base e size v' n xs)(hb':In v' b0' b1')(hd:b1'≤b0∨b1≤b0'):w'.ownsRow base e size v' n xs:=by
 induction m with
 | refl=>exact h
 | step m hg hb ih=>exact own_grown ih hg hb hb' hd
theorem Up.mk{a w w':World}{b0 b1:Nat}(h:Up a w)(m:Mk b0 b1 w w')(hd:a.heap.size≤b0):Up a w':=by
 induction m with
 | refl=>exact h
 | step m hg hb ih=>exact ih.marked hg hb hd
theorem Mk.cell{b0 b1:Nat}{w w':World}(m:Mk b0 b1 w w'){p:Addr}{v:Value}(h:w.cell? p=some v)(hd:p.block<b0∨b1≤p.block):w'.cell? p=some v:=by
 induction m with
 | refl=>exact h
 | step m hg hb ih =>
   refine(World.cell?_of_block (hg.block p.block ?_ (fun e=>?_))).trans ih
   ·exact Nat.lt_of_lt_of_le (block_lt_of_cell h) m.size
   ·have:=hb _ e.symm;omega
theorem Mk.trans{b0 b1:Nat}{a w w':World}(h:Mk b0 b1 a w)(k:Mk b0 b1 w w'):Mk b0 b1 a w':=by
 induction k with
 | refl=>exact h
 | step _ hg hb ih=>exact ih.step hg hb
theorem Mk.up{b0 b1:Nat}{w w':World}(h:Up w w'):Mk b0 b1 w w' :=
 Mk.refl.step (v:=.slice none 0 0) (World.grownBy.but (a:=_) ⟨h.os,h.tape,h.output,h.size,fun i hi _=>h.block i hi⟩ _) (fun b hb=>by simp[Value.ownBlock]at hb)
theorem markIntM_any(A:Option Addr)(n c base:Nat)(xs:List Value)(k:Int)(w:World)(hown:w.ownsRow base 2 1 (.slice A n c) n xs)(b0 b1:Nat)(hb:In (.slice A n c) b0 b1)(hn:n≤2000000)(h0:0≤k)(hk:k≤100000000) :
 Calls Tryz.prog 11 #[.slice A n c,.int .i64 k] w fun e w'=>e=.returned (.int .i64 (k+n))∧w'.ownsRow base 2 1 (.slice A n c) n ((mkI k n).flatMap intCells)∧Mk b0 b1 w w' :=
 (markIntW_any A n c base xs k w hown hn h0 hk).mono fun _ _ ⟨h1,h2,h3⟩=>⟨h1,h2,Mk.refl.step h3 hb⟩
end Go.Proofs.YtihcmhmanfobcaaGreatDoor
namespace Go.Proofs.YtihcmhmanfobcaaGreatDoor
abbrev Sp:=Int × Int
def insS(s:Sp):List Sp→List Sp
 | []=>[s]
 | x :: l=>if x.1≤s.1 then x :: insS s l else s :: x :: l
def srtS(l:List Sp):List Sp:=l.foldl (fun acc s=>insS s acc) []
def stpS(out:List Sp)(s:Sp):List Sp :=
 match out.getLast? with
 | some z=>if s.1≤z.2+1 then out.dropLast++[(z.1,max z.2 s.2)] else out++[s]
 | none=>out++[s]
def unL(l:List Sp):List Sp:=(srtS l).foldl stpS []
def SrtS(l:List Sp):Prop:=l.Pairwise fun a b=>a.1≤b.1
def OkS(l:List Sp):Prop:=∀s∈l,s.1≤s.2
def hasL(set:List Sp)(n:Int):Bool:=set.any fun s=>decide (s.1≤n) && decide (n≤s.2)
theorem stpS_nil(s:Sp):stpS [] s=[s]:=rfl
theorem stpS_snoc(o:List Sp)(z s:Sp):stpS (o++[z]) s=if s.1≤z.2+1 then o++[(z.1,max z.2 s.2)] else o++[z]++[s]:=by
 unfold stpS
 rw[List.getLast?_append,List.getLast?_singleton];simp
theorem stpS_comm(out:List Sp)(x y:Sp)(h:x.1=y.1)(hx:x.1≤x.2)(hy:y.1≤y.2):stpS (stpS out x) y=stpS (stpS out y) x:=by
 rcases List.eq_nil_or_concat out with rfl|⟨o,z,rfl⟩<;>try rw[List.concat_eq_append]
 ·rw[stpS_nil,stpS_nil,← List.nil_append [x],← List.nil_append [y],stpS_snoc,stpS_snoc,if_pos (by omega),if_pos (by omega),h,Int.max_comm]
 ·by_cases c:x.1≤z.2+1
  ·rw[stpS_snoc,stpS_snoc,if_pos c,if_pos (by omega),stpS_snoc,stpS_snoc,if_pos (by simp only[];omega),if_pos (by simp only[];omega)]
   congr 3;simp only[];omega
  ·rw[stpS_snoc,stpS_snoc,if_neg c,if_neg (by omega),stpS_snoc,stpS_snoc,if_pos (by omega),if_pos (by omega),h,Int.max_comm]
theorem foldS_past(x:Sp)(hx:x.1≤x.2):∀(a b out:List Sp),(∀y∈a,y.1=x.1∧y.1≤y.2)→(a++x :: b).foldl stpS out=(x :: (a++b)).foldl stpS out
 | [],b,out,_=>rfl
 | y :: a,b,out,h=>by
   have h1:=h y (List.mem_cons_self ..)
   have ih:=foldS_past x hx a b (stpS out y) (fun z hz=>h z (List.mem_cons_of_mem _ hz))
   simp only[List.cons_append,List.foldl_cons]at ih ⊢
   rw[ih,stpS_comm out y x h1.1 h1.2 hx]
theorem foldS_perm:∀(l m out:List Sp),l.Perm m→SrtS l→SrtS m→OkS l→l.foldl stpS out=m.foldl stpS out
 | [],m,out,hp,_,_,_=>by rw[List.nil_perm.1 hp]
 | x :: l,m,out,hp,hl,hm,ho=>by
   have hx:x∈m:=hp.mem_iff.1 (List.mem_cons_self ..)
   obtain⟨a,b,rfl⟩:=List.append_of_mem hx
   have hl1:=List.pairwise_cons.1 hl
   have hp2:l.Perm (a++b):=(List.perm_cons x).1 (hp.trans List.perm_middle)
   have hm1:=List.pairwise_append.1 hm
   have hm2:=List.pairwise_cons.1 hm1.2.1
   rw[foldS_past x (ho x (List.mem_cons_self ..)) a b out (fun y hy=>by
    have e1:=hm1.2.2 y hy x (List.mem_cons_self ..)
    have e2:=hl1.1 y (hp2.mem_iff.2 (List.mem_append_left _ hy))
    exact⟨by omega,ho y (List.mem_cons_of_mem _ (hp2.mem_iff.2 (List.mem_append_left _ hy)))⟩)]
   simp only[List.foldl_cons]
   exact foldS_perm l (a++b) _ hp2 hl1.2 (List.pairwise_append.2 ⟨hm1.1,hm2.2,fun y hy z hz=>hm1.2.2 y hy z (List.mem_cons_of_mem _ hz)⟩) (fun s hs=>ho s (List.mem_cons_of_mem _ hs))
theorem insS_perm(s:Sp):∀l,(insS s l).Perm (s :: l)
 | []=>List.Perm.refl _
 | x :: l=>by
   unfold insS;split
   ·exact((insS_perm s l).cons x).trans (List.Perm.swap s x l)
   ·exact List.Perm.refl _
theorem insS_sorted(s:Sp):∀l,SrtS l→SrtS (insS s l)
 | [],_=>by simp[insS,SrtS]
 | x :: l,h=>by
   have h1:=List.pairwise_cons.1 h
   unfold insS;split
   ·refine List.pairwise_cons.2 ⟨fun y hy=>?_,insS_sorted s l h1.2⟩
    rcases List.mem_cons.1 ((insS_perm s l).mem_iff.1 hy) with e|e
    ·subst e;assumption
    ·exact h1.1 y e
   ·refine List.pairwise_cons.2 ⟨fun y hy=>?_,h⟩
    rcases List.mem_cons.1 hy with e|e
    ·subst e;omega
    ·have:=h1.1 y e;omega
theorem srtS_fold:∀(l acc:List Sp),SrtS acc→(l.foldl (fun acc s=>insS s acc) acc).Perm (acc++l)∧SrtS (l.foldl (fun acc s=>insS s acc) acc)
 | [],acc,h=>⟨by simp,h⟩
 | x :: l,acc,h=>by
   have ih:=srtS_fold l (insS x acc) (insS_sorted x acc h)
   refine⟨ih.1.trans ?_,ih.2⟩
   exact((insS_perm x acc).append_right l).trans (by simpa using List.perm_middle.symm)
theorem srtS_perm(l:List Sp):(srtS l).Perm l:=by have:=(srtS_fold l [] List.Pairwise.nil).1;rwa [List.nil_append]at this
theorem srtS_sorted(l:List Sp):SrtS (srtS l):=(srtS_fold l [] List.Pairwise.nil).2
theorem unL_of{l m:List Sp}(hp:m.Perm l)(hs:SrtS m)(ho:OkS l):m.foldl stpS []=unL l :=
 foldS_perm m (srtS l) [] (hp.trans (srtS_perm l).symm) hs (srtS_sorted l) (fun s h=>ho s (hp.mem_iff.1 h))
theorem srtS_len(l:List Sp):(srtS l).length=l.length:=(srtS_perm l).length_eq
theorem stpS_len(o:List Sp)(s:Sp):(stpS o s).length≤o.length+1:=by
 rcases List.eq_nil_or_concat o with rfl|⟨o,z,rfl⟩<;>try rw[List.concat_eq_append]
 ·simp[stpS_nil]
 ·rw[stpS_snoc];split<;>simp
theorem foldS_len:∀(l o:List Sp),(l.foldl stpS o).length≤o.length+l.length
 | [],o=>by simp
 | x :: l,o=>by
   have:=foldS_len l (stpS o x);have:=stpS_len o x
   simp only[List.foldl_cons,List.length_cons];omega
theorem unL_len(l:List Sp):(unL l).length≤l.length:=by
 have:=foldS_len (srtS l) [];rw[srtS_len]at this;simpa[unL] using this
def metF:Nat→List Sp→List Sp→List Sp
 | n+1,a :: p,b :: q=>(if max a.1 b.1≤min a.2 b.2 then [(max a.1 b.1,min a.2 b.2)] else [])++if a.2<b.2 then metF n p (b :: q) else metF n (a :: p) q
 | _,_,_=>[]
def metL(a b:List Sp):List Sp:=metF (a.length+b.length) a b
theorem metF_len:∀(n:Nat) (a b:List Sp),(metF n a b).length≤n
 | 0,a,b=>by simp[metF]
 | n+1,[],b=>by simp[metF]
 | n+1,a :: p,[]=>by simp[metF]
 | n+1,a :: p,b :: q=>by
   have h1:=metF_len n p (b :: q)
   have h2:=metF_len n (a :: p) q
   simp only[metF,List.length_append]
   split<;>split<;>simp<;>omega
theorem metL_len(a b:List Sp):(metL a b).length≤a.length+b.length:=metF_len _ _ _
theorem metL_nil_l(b:List Sp):metL [] b=[]:=by unfold metL;cases h:([]:List Sp).length+b.length<;>simp[metF]
theorem metL_nil_r(a:List Sp):metL a []=[]:=by unfold metL;cases h:a.length+([]:List Sp).length<;>cases a<;>simp[metF]
theorem metL_cons(a b:Sp)(p q:List Sp):metL (a :: p) (b :: q)=(if max a.1 b.1≤min a.2 b.2 then [(max a.1 b.1,min a.2 b.2)] else [])++if a.2<b.2 then metL p (b :: q) else metL (a :: p) q:=by
 unfold metL
 rw[show(a :: p).length+(b :: q).length=(p.length+(b :: q).length)+1 by simp;omega,metF]
 rw[show(a :: p).length+q.length=p.length+(b :: q).length by simp;omega]
end Go.Proofs.YtihcmhmanfobcaaGreatDoor
namespace Go.Proofs.YtihcmhmanfobcaaGreatDoor
open Go.RowKit Go.Sort
abbrev spC(s:Sp):List Value:=[.int .i64 s.1,.int .i64 s.2]
abbrev RdP(w:World)(lo hi:Nat)(A:Option Addr)(l:List Sp):Prop:=Rd w lo hi 2 spC A l
theorem spC_len(s:Sp):(spC s).length=2:=rfl
theorem Rd.sp{w:World}{lo hi:Nat}{A:Option Addr}{l:List Sp}(h:RdP w lo hi A l){k:Nat}(hk:k<l.length) :
 ∃b off f t,A=some ⟨b,off,none⟩∧lo≤b∧b<hi∧l[k]?=some (f,t)∧w.cell? ⟨b,off+k*2,none⟩=some (.int .i64 f)∧w.cell? ⟨b,off+k*2+1,none⟩=some (.int .i64 t):=by
 obtain⟨b,off,d,e,h1,h2,h3,h4⟩:=Rd.at_ h hk
 exact⟨b,off,d.1,d.2,e,h1,h2,h3,h4 0 _ rfl,h4 1 _ rfl⟩
section
variable {P:Program} (w:World)
theorem step_append_ownP{ops:Array Oper}{o:Oper}{a:Act}{K:Act→World→Prop}{Q:Exit→Act→World→Prop}{E:Prop}(hgd:o.guard=none)(s x:Operand)(t:TypeId)
 (ho:o.op=.call { callee:=.builtin .append,args:=#[s,x],argTypes:=#[t,t] })
 (base:Nat) (e:TypeId) (i:TypeInfo) (z:Value) (size bytes:Nat) (ht:P.underlying t=some (.slice e)) (hi:P.info? e=some i) (hz:i.zero=some z)
 (hsize:i.size=size) (hby:i.bytes=bytes) (hzs:z.cells.size=size) (hsz:0<size)
 (v:Value) (n:Nat) (xs:List Value) (hs:a.eval s=v) (hown:w.ownsRow base e size v n xs)
 (ad:Addr) (m c:Nat) (news:List Value) (hx:a.eval x=.slice (some ad) m c) (hl:news.length=m*size) (hnews:∀j u,news[j]?=some u→w.cell? (ad.add j)=some u) (h1:∀u∈news,u.oneCell'=true)
 (h63:n+m≤maxLen) (hbytes:(n+m)*bytes≤140737488355328) (hbase:base≤w.heap.size)
 (h:∀v' w',w'.ownsRow base e size v' (n+m) (xs++news)→w.grownBy w' v.ownBlock→K (a.put o.dst v') w') :
 if Region.wanted o (yielded ops a.tmps)=true then Oper.wp P o a w K Q else E:=by
 have hw:Region.wanted o (yielded ops a.tmps)=true:=by simp[Region.wanted,hgd]
 rw[if_pos hw];exact wp_append_own w s x t ho base e i z size bytes ht hi hz hsize hby hzs hsz v n xs hs hown ad m c news hx hl hnews h1 h63 hbytes hbase (fun v' w' h2 h3 _=>h v' w' h2 h3)
end
theorem infoSp:(Tryz.prog.info? 84).map (fun i=>(i.zero,i.size,i.bytes))=some (some (.agg #[.int .i64 0,.int .i64 0]),2,16):=by kernel_rfl
theorem cell_two_newP(w:World)(a b:Value)(t:TypeId):∀j u,[a,b][j]?=some u→(w.alloc (.cells #[a,b] t)).cell? ((⟨w.heap.size,0,none⟩:Addr).add j)=some u:=by
 intro j u hj
 match j,hj with
 | 0,hj=>simp at hj;subst hj;simp[Addr.add]
 | 1,hj=>simp at hj;subst hj;simp[Addr.add]
 |(j+2),hj=>simp at hj
theorem flat_set2:∀(M:List Sp) (q:Nat) (x:Sp),q<M.length→((M.flatMap spC).set (q*2) (.int .i64 x.1)).set (q*2+1) (.int .i64 x.2)=(M.set q x).flatMap spC
 | [],q,x,h=>by simp at h
 | y :: M,0,x,h=>by simp[spC]
 | y :: M,q+1,x,h=>by
   have:=flat_set2 M q x (by simpa using h)
   rw[show(q+1)*2=q*2+2 by omega]
   simp only[List.flatMap_cons,spC,List.cons_append,List.nil_append,List.set_cons_succ]
   rw[this]
theorem shiftS{S:List Sp}{q:Nat}{x y:Sp}(h:S[q]?=some y):(S.take (q+1)++[x]++S.drop (q+1)).set (q+1) y=S.take q++[y]++S.drop q:=by
 obtain⟨hq,e⟩:=List.getElem?_eq_some_iff.1 h
 have hl:(S.take (q+1)).length=q+1:=by simp;omega
 rw[List.append_assoc,List.set_append,if_neg (by omega),hl,Nat.sub_self,List.singleton_append,List.set_cons_zero,List.take_succ_eq_append_getElem hq,e,List.drop_eq_getElem_cons hq,e]
 try simp
theorem lastS{S:List Sp}{q:Nat}{x y:Sp}(hq:q≤S.length):(S.take q++[x]++S.drop q).set q y=S.take q++[y]++S.drop q:=by
 have hl:(S.take q).length=q:=by simp;omega
 rw[List.append_assoc,List.set_append,if_neg (by omega),hl,Nat.sub_self,List.singleton_append,List.set_cons_zero]
 simp
theorem shift_get{S:List Sp}{q:Nat}{x y:Sp}(h:S[q]?=some y):(S.take (q+1)++[x]++S.drop (q+1))[q]?=some y:=by
 have hq:=(List.getElem?_eq_some_iff.1 h).1
 rw[List.append_assoc,List.getElem?_append_left (by simp;omega),List.getElem?_take,if_pos (by omega),h]
theorem insS_at:∀(S:List Sp) (p:Nat) (s:Sp),p≤S.length→(∀x∈S.take p,x.1≤s.1)→(∀x,S[p]?=some x→¬ x.1≤s.1)→S.take p++[s]++S.drop p=insS s S
 | [],p,s,h,_,_=>by simp[insS]
 | x :: S,0,s,h,_,h2=>by
   have:=h2 x rfl
   simp[insS,this]
 | x :: S,p+1,s,h,h1,h2=>by
   have e1:=h1 x (by simp)
   have ih:=insS_at S p s (by simpa using h) (fun y hy=>h1 y (by simp[hy])) (fun y hy=>h2 y (by simpa using hy))
   unfold insS;rw[if_pos e1,← ih];simp
theorem srtS_succ{l:List Sp}{j:Nat}{s:Sp}(h:l[j]?=some s):srtS (l.take (j+1))=insS s (srtS (l.take j)):=by
 rw[List.take_succ_eq_append_getElem (List.getElem?_eq_some_iff.1 h).1,(List.getElem?_eq_some_iff.1 h).2];unfold srtS;rw[List.foldl_append];rfl
def BdS(l:List Sp):Prop:=∀s∈l,0≤s.1∧s.1≤730499∧0≤s.2∧s.2≤730499
theorem BdS.stp{o:List Sp}{s:Sp}(h:BdS o)(hs:0≤s.1∧s.1≤730499∧0≤s.2∧s.2≤730499):BdS (stpS o s):=by
 rcases List.eq_nil_or_concat o with rfl|⟨o,z,rfl⟩<;>try rw[List.concat_eq_append]at *
 ·intro x hx;rw[stpS_nil]at hx;simp at hx;subst hx;exact hs
 ·rw[stpS_snoc]
  have hz:=h z (by simp)
  split
  ·intro x hx
   rcases List.mem_append.1 hx with h1|h1
   ·exact h x (by simp[h1])
   ·simp only[List.mem_singleton]at h1;subst h1;simp only[];omega
  ·intro x hx
   rcases List.mem_append.1 hx with h1|h1
   ·exact h x h1
   ·simp only[List.mem_singleton]at h1;subst h1;exact hs
theorem BdS.srt{l:List Sp}(h:BdS l):BdS (srtS l):=fun s hs=>h s ((srtS_perm l).mem_iff.1 hs)
theorem fold_succ{l:List Sp}{k:Nat}{s:Sp}(h:l[k]?=some s):(l.take (k+1)).foldl stpS []=stpS ((l.take k).foldl stpS []) s:=by
 rw[List.take_succ_eq_append_getElem (List.getElem?_eq_some_iff.1 h).1,(List.getElem?_eq_some_iff.1 h).2,List.foldl_append];rfl
theorem last_set{o:List Sp}{z:Sp}{t:Int}:((o++[z]).flatMap spC).set (o.length*2+1) (.int .i64 t)=(o++[(z.1,t)]).flatMap spC:=by
 induction o with
 | nil=>simp[spC]
 | cons y o ih =>
   rw[List.length_cons,show(o.length+1)*2+1=(o.length*2+1)+2 by omega]
   simpa[spC] using ih
theorem specMake_any(A:Option Addr)(l:List Sp)(c lo hi:Nat)(w:World)(hr:RdP w lo hi A l)(_hhi:hi≤w.heap.size)(hn:l.length≤100000)(hbd:BdS l) :
 Calls Tryz.prog 101 #[.slice A l.length c] w fun e w'=>∃v,e=.returned v∧w'.ownsRow w.heap.size 84 2 v (unL l).length ((unL l).flatMap spC)∧Up w w':=by
 obtain⟨i0,hi0,hz0,hz1,hz2⟩:=info_parts infoSp
 have HBD:=qh hbd
 clear hbd;go_enter Tryz.func101,Tryz.ntmps101
 go_wp2;have hown0:=World.ownsRow_lit (base:=w.heap.size) (e:=84) (size:=2) w #[] 0 (Nat.le_refl _) (by simp[maxLen]) rfl
 have hup0:=(Up.refl w).allocs (.cells #[] 84)
 obtain⟨v0,hv0⟩:∃v,v=Value.slice (some ⟨w.heap.size,0,none⟩) 0 0:=⟨_,rfl⟩
 rw[← hv0]at hown0 ⊢
 generalize w.alloc (.cells #[] 84)=w2 at *
 clear hv0;go_loopw [3,5,6,4] (fun o a kk i wr=>∃j:Nat,∃S:List Sp,j≤l.length∧i=.int .i64 j∧S=srtS (l.take j)∧S.length≤100000∧wr.ownsRow w.heap.size 84 2 o S.length (S.flatMap spC)∧Up w wr) (fun _ _ _ i _=>l.length-(intOf i).toNat)
 case atStart=>exact⟨0,[],Nat.zero_le _,rfl,rfl,by simp,hown0,hup0⟩
 case round =>
  obtain⟨j,S,hj,rfl,hS,hSn,hown,hup⟩:=hrel
  have HS:=qh hS
  clear hS;by_cases hlt:j<l.length
  ·have hSj:S.length≤j:=by rw[HS.out,srtS_len];simp;omega
   obtain⟨b,off,f,t,rfl,-,-,hd,q0w,q1w⟩:=hr.sp hlt
   have q0:=hup.cell q0w
   have HD:=qh hd
   clear hd;obtain⟨As,cs,rfl,hcs,hcm,-,-⟩:=own_form hown
   have hrs:=Rd.own spC_len hown
   go_wp2;obtain⟨wo,hwo⟩:∃x,x=wr:=⟨_,rfl⟩
   go_loopw [5] (fun a wi=>∃p:Nat,p≤S.length∧a=.int .i64 p∧(∀x∈S.take p,x.1≤f)∧Up wo wi) (fun a _=>S.length-(intOf a).toNat)
   case atStart=>exact⟨0,Nat.zero_le _,rfl,by simp,by rw[hwo];exact Up.refl _⟩
   case round =>
    obtain⟨p,hp,rfl,hall,hui⟩:=hrel
    subst hwo;have HA:=qh hall
    clear hall;have hownp:=own_up hown hui
    have hupx:=hup.trans hui
    have q0':=hui.cell q0
    have h3:(∃s':Sp,S[p]?=some s'∧s'.1≤f)∨(∀x,S[p]?=some x→¬ x.1≤f):=by
     rcases Nat.lt_or_ge p S.length with h|h
     ·rcases Decidable.em (S[p].1≤f) with h2|h2
      ·exact .inl ⟨_,List.getElem?_eq_getElem h,h2⟩
      ·exact .inr (fun x hx=>by rw[List.getElem?_eq_getElem h]at hx;cases hx;exact h2)
     ·exact .inr (fun x hx=>by rw[List.getElem?_eq_none h]at hx;cases hx)
    have Q0:=cell_regrown q0'
    rcases h3 with⟨s',hs',hle⟩|hno
    ·have hps:=(List.getElem?_eq_some_iff.1 hs').1
     have hlt1:decide ((p:Int)<(S.length:Int))=true:=by simpa using hps
     obtain⟨b',off',f',t',rfl,-,-,hd',r0,-⟩:=(Rd.own spC_len hownp).sp hps
     obtain rfl:(f',t')=s':=by rw[hd']at hs';simpa using hs'
     have HD':=qh hd'
     have hle1:decide (f'≤f)=true:=by simpa using hle
     have R0:=cell_regrown r0
     clear hd' hs';go_wp2_with fail
     refine wp_region_quiet_below (by kernel_rfl) (by kernel_rfl) ?_
     repeat (first|go_big_quiet_step (fail)|quiet_step (fail))
     refine wpQuiet_nil ?_
     intro w7 hw7
     obtain⟨⟨dq,osq⟩,hw7⟩:=hw7
     have hup7:Up wr w7:=by rw[hw7];exact below_regrown _ _ _
     clear hw7 Q0 R0;go_wp2;go_roundw
     case rel=>exact⟨p+1,by omega,by go_num,fun x hx=>by
      rw[List.take_succ_eq_append_getElem hps,(List.getElem?_eq_some_iff.1 HD'.out).2]at hx;rcases List.mem_append.1 hx with h|h
      ·exact HA.out x h
      ·simp only[List.mem_singleton]at h;subst h;exact hle,hui.trans hup7⟩
     case measure=>simp[intOf];omega
    all_goals
     have HN:=qh hno
     clear hno;have hx:((p<S.length∧decide ((p:Int)<(S.length:Int))=true)∧∃b' off' f',As=some ⟨b',off',none⟩∧wr.cell? ⟨b',off'+p*2,none⟩=some (.int .i64 f')∧decide (f'≤f)=false)∨(¬ p<S.length∧decide ((p:Int)<(S.length:Int))=false):=by
      by_cases hps:p<S.length
      ·obtain⟨b',off',f',t',e,-,-,hd',r0,-⟩:=(Rd.own spC_len hownp).sp hps
       exact .inl ⟨⟨hps,by simpa using hps⟩,b',off',f',e,r0,by simpa using HN.out _ hd'⟩
      ·exact .inr ⟨hps,by simp;omega⟩
     rcases hx with⟨⟨hps,hlt1⟩,b',off',f',rfl,r0,hle1⟩|⟨hps,hlt1⟩
    all_goals
     try have R0:=cell_regrown r0
     go_wp2_with fail
     refine wp_region_quiet_below (by kernel_rfl) (by kernel_rfl) ?_
     repeat (first|go_big_quiet_step (fail)|quiet_step (fail))
     refine wpQuiet_nil ?_
     intro w7 hw7
     obtain⟨⟨dq,osq⟩,hw7⟩:=hw7
     have hup7:Up wr w7:=by rw[hw7];exact below_regrown _ _ _
     clear hw7 Q0;try clear R0 r0
     try clear hle1
     have own7:=own_up hownp hup7
     have hupy:=hupx.trans hup7
     clear q0' hownp;have n1:S.length+1≤maxLen:=by unfold maxLen;omega
     have n2:(S.length+1)*16≤140737488355328:=by omega
     have n3:w.heap.size≤(w7.alloc (.cells #[.int .i64 0,.int .i64 0] 84)).heap.size:=(hupy.allocs _).size
     go_wp2_with ((at_builtin;refine wpList_append_own _ rfl _ _ 76 rfl w.heap.size 84 i0 _ 2 16 Tryz.underlying76 hi0 hz0 hz1 hz2 rfl (by decide) _ _ _ rfl (own7.alloc _) ⟨w7.heap.size,0,none⟩ 1 1 [.int .i64 0,.int .i64 0] rfl rfl (cell_two_newP _ _ _ _) (by simp[Value.oneCell']) n1 n2 n3 ?_))
     intro v' w4 hown' hgrow _
     have hu4:=(hupy.allocs (.cells #[.int .i64 0,.int .i64 0] 84)).grown hgrow (fun k hk=>(own7.lt k hk).1)
     obtain⟨A4,c4,rfl,hc4,hm4,-,-⟩:=own_form hown'
     clear hown own7 hgrow hps hlt1;try clear hlt1
     rw[show S.flatMap spC++[.int .i64 0,.int .i64 0]=(S.take S.length++[((0:Int),(0:Int))]++S.drop S.length).flatMap spC by simp[spC]]at hown'
     go_wp2;obtain⟨w5,hw5⟩:∃x,x=w4:=⟨_,rfl⟩
     go_loopw [6] (fun kk wi=>∃q:Nat,∃x:Sp,p≤q∧q≤S.length∧kk=.int .i64 q∧wi.ownsRow w.heap.size 84 2 (.slice A4 (S.length+1) c4) (S.length+1) ((S.take q++[x]++S.drop q).flatMap spC)∧Up w wi) (fun kk _=>(intOf kk).toNat)
     case atStart=>exact⟨S.length,(0,0),hp,Nat.le_refl _,by go_num,hown',hu4⟩
     case round =>
      obtain⟨q,x,hpq,hqn,rfl,hownq,huq⟩:=hrel
      subst hw5;obtain⟨A',c',hv,-,-,hA,-⟩:=own_form hownq
      simp only[Value.slice.injEq]at hv
      obtain⟨rfl,-,rfl⟩:=hv
      obtain⟨g',rfl,hg1,hg2⟩:=hA (by omega)
      by_cases hq:p<q
      ·obtain⟨r,rfl⟩:∃r,q=r+1:=⟨q-1,by omega⟩
       have hrS:r<S.length:=by omega
       obtain⟨f',t',hd'⟩:∃f' t',S[r]?=some (f',t'):=⟨S[r].1,S[r].2,List.getElem?_eq_getElem hrS⟩
       have HD':=qh hd'
       have hget:=shift_get (x:=x) hd'
       have hM:(S.take (r+1)++[x]++S.drop (r+1)).length=S.length+1:=by rw[List.length_append,List.length_append,List.length_take,List.length_drop,List.length_singleton];omega
       have k0:=(hownq.cellAt (r*2) (by omega)).trans (flat_get spC 2 spC_len _ r _ hget 0 _ rfl)
       have k1:=(hownq.cellAt (r*2+1) (by omega)).trans (flat_get spC 2 spC_len _ r _ hget 1 _ rfl)
       obtain⟨u0,m0⟩:=own_cell hownq (p:=(r+1)*2) (by omega)
       obtain⟨u1,m1⟩:=own_cell hownq (p:=(r+1)*2+1) (by omega)
       have z0:=hownq.frozenAt ((r+1)*2)
       have z1:=hownq.frozenAt ((r+1)*2+1)
       have s1:=hownq.stored ((r+1)*2) (.int .i64 f')
       have s2:=s1.1.stored ((r+1)*2+1) (.int .i64 t')
       rw[flat_set2 _ (r+1) (f',t') (by omega),shiftS hd']at s2
       have SS:=qh (And.intro s2.1 ((huq.grown s1.2 (fun k hk=>by simp at hk;omega)).grown s2.2 (fun k hk=>by simp at hk;omega)))
       clear s1 s2 hget hM hd';have hidx:IntKind.i64.wrap (((r+1:Nat):Int)-1)=(r:Int):=by rw[IntWalk.i64_in _ (by omega)];omega
       go_wp2;go_roundw
       case rel=>exact⟨r,(f',t'),by omega,by omega,by go_num,SS.out.1,SS.out.2⟩
       case measure=>simp[intOf]
      ·obtain rfl:q=p:=by omega
       have k0:=huq.cell q0w
       have k1:=huq.cell q1w
       have hM:(S.take q++[x]++S.drop q).length=S.length+1:=by rw[List.length_append,List.length_append,List.length_take,List.length_drop,List.length_singleton];omega
       obtain⟨u0,m0⟩:=own_cell hownq (p:=q*2) (by omega)
       obtain⟨u1,m1⟩:=own_cell hownq (p:=q*2+1) (by omega)
       have z0:=hownq.frozenAt (q*2)
       have z1:=hownq.frozenAt (q*2+1)
       have s1:=hownq.stored (q*2) (.int .i64 f)
       have s2:=s1.1.stored (q*2+1) (.int .i64 t)
       have hins:(S.take q++[(f,t)]++S.drop q)=srtS (l.take (j+1)):=by
        rw[srtS_succ HD.out,← HS.out];exact insS_at S q (f,t) (by omega) HA.out (fun x hx=>by have:=HN.out x hx;show ¬ x.1≤f;omega)
       rw[flat_set2 _ q (f,t) (by omega),lastS (by omega),hins]at s2
       have hlen:S.length+1=(srtS (l.take (j+1))).length:=by rw[← hins];simp;omega
       have hlen2:(srtS (l.take (j+1))).length≤100000:=by rw[srtS_len];simp;omega
       have SS:=qh (And.intro s2.1 ((huq.grown s1.2 (fun k hk=>by simp at hk;omega)).grown s2.2 (fun k hk=>by simp at hk;omega)))
       have HLL:=qh hlen
       clear s1 s2 hM hins hlen;go_wp2;go_roundw
       case rel=>exact⟨j+1,_,by omega,by go_num,rfl,hlen2,by rw[← HLL.out];exact SS.out.1,SS.out.2⟩
       case measure=>simp[intOf];omega
  ·obtain rfl:j=l.length:=by omega
   have hSl:S=srtS l:=by rw[HS.out,List.take_of_length_le (Nat.le_refl _)]
   subst hSl;obtain⟨As,cs,rfl,hcs,hcm,-,-⟩:=own_form hown
   have hrs:=Rd.own spC_len hown
   have hbs:=qh (BdS.srt HBD.out)
   have hll:=srtS_len l
   have HLN:=qh hll
   clear hll;have HU:=qh (show unL l=(srtS l).foldl stpS [] from rfl)
   obtain⟨S,hSS⟩:∃S,S=srtS l:=⟨_,rfl⟩
   rw[← hSS]at hrs hbs HU hcs hSn hown HS ⊢
   clear hSS HS;go_wp2;have hown1:=World.ownsRow_lit (base:=wr.heap.size) (e:=84) (size:=2) wr #[] 0 (Nat.le_refl _) (by simp[maxLen]) rfl
   have hup1:=(Up.refl wr).allocs (.cells #[] 84)
   obtain⟨v1,hv1⟩:∃v,v=Value.slice (some ⟨wr.heap.size,0,none⟩) 0 0:=⟨_,rfl⟩
   rw[← hv1]at hown1 ⊢
   obtain⟨wo,hwo⟩:∃x,x=wr:=⟨_,rfl⟩
   rw[← hwo]at hup hown hrs hown1 hup1 ⊢
   clear hwo;generalize wo.alloc (.cells #[] 84)=w3 at *
   clear hv1 hown;go_loopw [7,9,8] (fun o la i wi=>∃k:Nat,∃O:List Sp,k≤S.length∧i=.int .i64 k∧O=(S.take k).foldl stpS []∧BdS O∧wi.ownsRow wo.heap.size 84 2 o O.length (O.flatMap spC)∧Up wo wi) (fun _ _ i _=>S.length-(intOf i).toNat)
   case atStart=>exact⟨0,[],Nat.zero_le _,rfl,rfl,by intro s hs;simp at hs,hown1,hup1⟩
   case round =>
    obtain⟨k,O,hk,rfl,hO,hOb,hown,hui⟩:=hrel
    have HO:=qh hO
    have HOB:=qh hOb
    clear hO hOb;have hOn:O.length≤k:=by
     rw[HO.out];have:=foldS_len (S.take k) []
     rw[List.length_take]at this;simp only[List.length_nil]at this;omega
    have hupx:=hup.trans hui
    by_cases hlt:k<S.length
    ·obtain⟨b,off,f,t,rfl,-,-,hd,q0,q1⟩:=(hrs.up hui (Nat.le_refl _)).sp hlt
     have HD:=qh hd
     have hb:=hbs.out _ (List.mem_of_getElem? hd)
     simp only at hb
     have HF:=qh (fold_succ hd)
     have HNB:=qh (HOB.out.stp (hbs.out _ (List.mem_of_getElem? hd)))
     clear hd;rcases List.eq_nil_or_concat O with rfl|⟨o',z,rfl⟩
     ·simp only[List.length_nil,List.flatMap_nil]at hown
      obtain⟨A',c',rfl,hc',hm',hA,-⟩:=own_form hown
      go_wp2_with fail
      refine wp_region_quiet_below (by kernel_rfl) (by kernel_rfl) ?_
      repeat (first|go_big_quiet_step (fail)|quiet_step (fail))
      refine wpQuiet_nil ?_
      intro w7 hw7
      obtain⟨⟨dq,osq⟩,hw7⟩:=hw7
      have hup7':Up wr w7:=by rw[hw7];exact below_regrown _ _ _
      clear hw7;have own7:=own_up hown hup7'
      have hup7:=hui.trans hup7'
      have k0:=hup7'.cell q0
      have k1:=hup7'.cell q1
      clear q0 q1 hown;have n1:0+1≤maxLen:=by unfold maxLen;omega
      have n2:(0+1)*16≤140737488355328:=by omega
      have n3:wo.heap.size≤(w7.alloc (.cells #[.int .i64 f,.int .i64 t] 84)).heap.size:=(hup7.allocs _).size
      go_wp2_with ((at_builtin;refine wpList_append_own _ rfl _ _ 76 rfl wo.heap.size 84 i0 _ 2 16 Tryz.underlying76 hi0 hz0 hz1 hz2 rfl (by decide) _ _ _ rfl (own7.alloc _) ⟨w7.heap.size,0,none⟩ 1 1 [.int .i64 f,.int .i64 t] rfl rfl (cell_two_newP _ _ _ _) (by simp[Value.oneCell']) n1 n2 n3 ?_))
      intro v' w4 hown' hgrow _
      have hu4:=(hup7.allocs (.cells #[.int .i64 f,.int .i64 t] 84)).grown hgrow (fun k hk=>(own7.lt k hk).1)
      clear hgrow own7;have HO4:=qh hown'
      clear hown';go_wp2;go_roundw
      case rel=>exact⟨k+1,_,by omega,by go_num,rfl,by rw[HF.out,← HO.out];exact HNB.out,by rw[HF.out,← HO.out,stpS_nil];simpa[spC] using HO4.out,hu4⟩
      case measure=>simp[intOf];omega
     ·rw[List.concat_eq_append]at *
      obtain⟨zf,zt⟩:=z
      have hzb:=HOB.out (zf,zt) (by simp)
      simp only at hzb
      have hzget:(o'++[(zf,zt)])[o'.length]?=some (zf,zt):=by simp
      simp only[List.length_append,List.length_singleton]at hown hOn
      obtain⟨m,hm⟩:∃m,m=o'.length:=⟨_,rfl⟩
      rw[← hm]at hzget hown hOn;have HM:=qh hm
      clear hm;obtain⟨n,hnm⟩:∃n,n=m+1:=⟨_,rfl⟩
      rw[← hnm]at hown hOn;have hmn:m<n:=by omega
      have hidx:IntKind.i64.wrap ((n:Int)-1)=(m:Int):=by rw[IntWalk.i64_in _ (by omega)];omega
      have hn5:n≤100000:=by omega
      have hn6:1≤n:=by omega
      have HNM:=qh hnm
      clear hnm;obtain⟨A',c',rfl,hc',hm',hA,-⟩:=own_form hown
      obtain⟨g',rfl,hg1,hg2⟩:=hA (by omega)
      have r1:=(hown.cellAt (m*2+1) (by omega)).trans (flat_get spC 2 spC_len _ m _ hzget 1 _ rfl)
      have r0:=(hown.cellAt (m*2) (by omega)).trans (flat_get spC 2 spC_len _ m _ hzget 0 _ rfl)
      have hwr2:IntKind.i64.wrap (zt+1)=zt+1:=IntWalk.i64_in _ (by omega)
      have Q0:=cell_regrown q0
      have R1:=cell_regrown r1
      clear hzget;by_cases hjn:f≤zt+1<;>have HJ:=qh hjn
      ·have hjn1:decide (f≤zt+1)=true:=by simpa using hjn
       go_wp2_with fail
       refine wp_region_quiet_below (by kernel_rfl) (by kernel_rfl) ?_
       repeat (first|go_big_quiet_step (fail)|quiet_step (fail))
       refine wpQuiet_nil ?_
       intro w7 hw7
       obtain⟨⟨dq,osq⟩,hw7⟩:=hw7
       have hup7':Up wr w7:=by rw[hw7];exact below_regrown _ _ _
       clear hw7;have own7:=own_up hown hup7'
       have hup7:=hui.trans hup7'
       have k1:=hup7'.cell q1
       have t1:=hup7'.cell r1
       clear q0 q1 hown Q0 R1 r0 r1 hwr2 hjn1 hjn;have z1:=own7.frozenAt (m*2+1)
       have hdr:Up w7 w7.drew:=(Up.refl w7).drew
       have ownd:=own_up own7 hdr
       have hmax:(if zt<t then t else zt)=max zt t:=by split<;>omega
       have s1:=ownd.stored (m*2+1) (.int .i64 (if zt<t then t else zt))
       have hset:=last_set (o:=o') (z:=(zf,zt)) (t:=if zt<t then t else zt)
       rw[← HM.out]at hset;rw[hset]at s1;have SS:=qh (And.intro s1.1 ((hup7.trans hdr).grown s1.2 (fun k hk=>by simp at hk;omega)))
       have HMX:=qh hmax
       clear s1 hset ownd own7 hmax;go_wp2_with fail
       go_still_tail 13,(by kernel_rfl)
       change wpList _ _ _ _ _ w7.drew
       go_wp2;go_roundw
       case rel=>exact⟨k+1,_,by omega,by go_num,rfl,by rw[HF.out,← HO.out];exact HNB.out,by rw[HF.out,← HO.out,stpS_snoc,if_pos (show f≤zt+1 by have:=HJ.out;omega),List.length_append,List.length_singleton,← HM.out,← HNM.out];simp only[← HMX.out];exact SS.out.1,SS.out.2⟩
       case measure=>simp[intOf];omega
      ·have hjn1:decide (f≤zt+1)=false:=by simpa using hjn
       go_wp2_with fail
       refine wp_region_quiet_below (by kernel_rfl) (by kernel_rfl) ?_
       repeat (first|go_big_quiet_step (fail)|quiet_step (fail))
       refine wpQuiet_nil ?_
       intro w7 hw7
       obtain⟨⟨dq,osq⟩,hw7⟩:=hw7
       have hup7':Up wr w7:=by rw[hw7];exact below_regrown _ _ _
       clear hw7;have own7:=own_up hown hup7'
       have hup7:=hui.trans hup7'
       have k0:=hup7'.cell q0
       have k1:=hup7'.cell q1
       clear q0 q1 hown Q0 R1;have n1:n+1≤maxLen:=by unfold maxLen;omega
       have n2:(n+1)*16≤140737488355328:=by omega
       have n3:wo.heap.size≤(w7.alloc (.cells #[.int .i64 f,.int .i64 t] 84)).heap.size:=(hup7.allocs _).size
       go_wp2_with ((at_builtin;refine wpList_append_own _ rfl _ _ 76 rfl wo.heap.size 84 i0 _ 2 16 Tryz.underlying76 hi0 hz0 hz1 hz2 rfl (by decide) _ _ _ rfl (own7.alloc _) ⟨w7.heap.size,0,none⟩ 1 1 [.int .i64 f,.int .i64 t] rfl rfl (cell_two_newP _ _ _ _) (by simp[Value.oneCell']) n1 n2 n3 ?_))
       intro v' w4 hown' hgrow _
       have hu4:=(hup7.allocs (.cells #[.int .i64 f,.int .i64 t] 84)).grown hgrow (fun k hk=>(own7.lt k hk).1)
       clear hgrow own7;have HO4:=qh hown'
       clear hown';go_wp2;go_roundw
       case rel=>exact⟨k+1,_,by omega,by go_num,rfl,by rw[HF.out,← HO.out];exact HNB.out,by rw[HF.out,← HO.out,stpS_snoc,if_neg (show ¬ f≤zt+1 by have:=HJ.out;omega)];have h4:=HO4.out;rw[HNM.out,HM.out]at h4;simpa[spC] using h4,hu4⟩
       case measure=>simp[intOf];omega
    ·obtain rfl:k=S.length:=by omega
     have hfin:O=unL l:=by rw[HU.out,HO.out,List.take_of_length_le (Nat.le_refl _)]
     subst hfin;go_wp2;go_ret;exact⟨_,rfl,own_base hown hup.size,hupx⟩
theorem metL_step{a b:List Sp}{p q:Nat}{x y:Sp}(ha:a[p]?=some x)(hb:b[q]?=some y):metL (a.drop p) (b.drop q)=(if max x.1 y.1≤min x.2 y.2 then [(max x.1 y.1,min x.2 y.2)] else [])++if x.2<y.2 then metL (a.drop (p+1)) (b.drop q) else metL (a.drop p) (b.drop (q+1)):=by
 rw[List.drop_eq_getElem_cons (List.getElem?_eq_some_iff.1 ha).1,List.drop_eq_getElem_cons (List.getElem?_eq_some_iff.1 hb).1,(List.getElem?_eq_some_iff.1 ha).2,(List.getElem?_eq_some_iff.1 hb).2,metL_cons]
theorem metL_endl{a b:List Sp}{p q:Nat}(h:a.length≤p):metL (a.drop p) (b.drop q)=[]:=by rw[List.drop_eq_nil_of_le h,metL_nil_l]
theorem metL_endr{a b:List Sp}{p q:Nat}(h:b.length≤q):metL (a.drop p) (b.drop q)=[]:=by rw[List.drop_eq_nil_of_le h,metL_nil_r]
end Go.Proofs.YtihcmhmanfobcaaGreatDoor
