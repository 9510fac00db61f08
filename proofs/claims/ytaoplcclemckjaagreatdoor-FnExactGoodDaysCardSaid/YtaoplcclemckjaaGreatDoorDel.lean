/- placesWith: the places at which a function value answers yes. -/
import Derived.Test.YtaoplcclemckjaaGreatDoorProg
import Derived.Test.YtaoplcclemckjaaGreatDoorLib
import Derived.Test.YtaoplcclemckjaaGreatDoorVc
import Derived.Lib.SliceRun
set_option maxHeartbeats 2000000
set_option maxRecDepth 100000
namespace Go.Proofs.YtaoplcclemckjaaGreatDoor
open Go.RowKit Go.Sort
theorem infoIntP:(Tryz.prog.info? 2).map (fun i=>(i.zero,i.size,i.bytes))=some (some (.int .i64 0),1,8):=by kernel_rfl
def AnsP(w:World)(f:FuncId)(caps:Array Value)(p:Nat→Bool)(n:Nat):Prop :=
 ∀j,j<n→∀w1,Up w w1→Calls Tryz.prog f (#[.int .i64 (j:Int)]++caps) w1 fun e w2=>e=.returned (.bool (p j))∧Up w1 w2
def pl(p:Nat→Bool)(n:Nat):List Int:=((List.range n).filter p).map fun(j:Nat)=>(j:Int)
theorem pl_yes{p:Nat→Bool}{n:Nat}(h:p n=true):pl p (n+1)=pl p n++[(n:Int)]:=by simp[pl,List.range_succ,h]
theorem pl_no{p:Nat→Bool}{n:Nat}(h:p n=false):pl p (n+1)=pl p n:=by simp[pl,List.range_succ,h]
theorem pl_len(p:Nat→Bool)(n:Nat):(pl p n).length≤n:=by
 unfold pl;rw[List.length_map];have:=List.length_filter_le p (List.range n);simpa using this
theorem pl_step{w':World}{base:Nat}{T:TypeId}{v':Value}{p:Nat→Bool}{n:Nat}(h:p n=true)(ho:w'.ownsRow base T 1 v' ((pl p n).length+1) ((pl p n).flatMap intCells++[.int .i64 (n:Int)])):w'.ownsRow base T 1 v' (pl p (n+1)).length ((pl p (n+1)).flatMap intCells):=by
 rw[pl_yes h,List.length_append,List.flatMap_append];exact ho
theorem placesWith_any(n:Nat)(f:FuncId)(caps:Array Value)(p:Nat→Bool)(w:World)(hn:n≤2000000)(he:∀(args:Array Value) (w:World),(callFunc f args).run Tryz.prog w=.ok (.enter f args) w)(hf:AnsP w f caps p n) :
 Calls Tryz.prog 152 #[.int .i64 (n:Int),.func (.func f) #[] caps] w fun e w'=>∃v,e=.returned v∧w'.ownsRow w.heap.size 2 1 v (pl p n).length ((pl p n).flatMap intCells)∧Up w w':=by
 obtain⟨i0,hi0,hz0,hz1,hz2⟩:=info_parts infoIntP
 have hent:∀(args:Array Value) (w:World),(callFunc f args).run Tryz.prog w=.ok (.enter f args) w:=he
 go_enter Tryz.func152,Tryz.ntmps152
 go_wp2;have hown0:=World.ownsRow_lit (base:=w.heap.size) (e:=2) (size:=1) w #[] 0 (Nat.le_refl _) (by simp[maxLen]) rfl
 have hup0:=(Up.refl w).allocs (.cells #[] 2)
 obtain⟨v0,hv0⟩:∃v,v=Value.slice (some ⟨w.heap.size,0,none⟩) 0 0:=⟨_,rfl⟩
 rw[← hv0]at hown0 ⊢
 generalize w.alloc (.cells #[] 2)=w2 at *
 clear hv0;go_loopw [5,6,9] (fun o u i wr=>∃k:Nat,k≤n∧i=.int .i64 k∧wr.ownsRow w.heap.size 2 1 o (pl p k).length ((pl p k).flatMap intCells)∧Up w wr) (fun _ _ i _=>n-(intOf i).toNat)
 case atStart=>exact⟨0,Nat.zero_le _,rfl,hown0,hup0⟩
 case round =>
  obtain⟨k,hk,rfl,hown,hup⟩:=hrel
  by_cases hlt:k<n
  ·have HF:=qh (hf k hlt wr hup)
   have hpl:=pl_len p k
   go_wp2_with fail
   refine HF.out.mono ?_
   rintro e w3 ⟨rfl,hup3⟩
   have hown3:=own_up hown hup3
   have hupx:=hup.trans hup3
   by_cases hp:p k=true
   ·have HP:=qh hp
    have n1:(pl p k).length+1≤maxLen:=by unfold maxLen;omega
    have n2:((pl p k).length+1)*8≤140737488355328:=by omega
    have n3:w.heap.size≤(w3.alloc (.cells #[.int .i64 (k:Int)] 2)).heap.size:=(hupx.allocs _).size
    go_wp2_with ((at_builtin;refine wpList_append_own _ rfl _ _ 169 rfl w.heap.size 2 i0 _ 1 8 Tryz.underlying169 hi0 hz0 hz1 hz2 rfl (by decide) _ _ _ rfl (hown3.alloc _) ⟨w3.heap.size,0,none⟩ 1 1 [.int .i64 (k:Int)] rfl rfl (cell_one_new _ _ _) (by simp[Value.oneCell']) n1 n2 n3 ?_))
    intro v' w4 hown' hgrow _
    have ho:=pl_step HP.out hown'
    have hu:=(hupx.allocs (.cells #[.int .i64 (k:Int)] 2)).grown hgrow (fun k hk=>(hown3.lt k hk).1)
    clear hown' hgrow hp;go_wp2;go_roundw
    case rel=>exact⟨k+1,by omega,by go_num,ho,hu⟩
    case measure=>simp[intOf];omega
   ·have hp':p k=false:=by simpa using hp
    have HP:=qh hp'
    clear hp;go_wp2;go_roundw
    case rel=>exact⟨k+1,by omega,by go_num,by rw[pl_no HP.out];exact hown3,hupx⟩
    case measure=>simp[intOf];omega
  ·have e:k=n:=by omega
   subst e;go_wp2;go_ret;exact⟨_,rfl,hown,hup⟩
end Go.Proofs.YtaoplcclemckjaaGreatDoor
