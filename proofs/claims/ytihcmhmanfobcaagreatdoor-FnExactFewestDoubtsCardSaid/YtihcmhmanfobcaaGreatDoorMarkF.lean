/- Marking lists of words, and a formula, that the call itself made. -/
import Derived.Test.YtihcmhmanfobcaaGreatDoorVc
import Derived.Test.YtihcmhmanfobcaaGreatDoorLib
set_option maxHeartbeats 1000000
namespace Go.Proofs.YtihcmhmanfobcaaGreatDoor
open Go.RowKit Go.Sort
def mkS(k:Int)(n:Nat):List ByteArray:=(List.range n).map fun(j:Nat)=>mtext (k+(j:Int))
theorem mkS_len(k:Int)(n:Nat):(mkS k n).length=n:=by simp[mkS]
theorem mkS_take{k:Int}{n j:Nat}(h:j<n):((mkS k n).take (j+1)).flatMap strC=((mkS k n).take j).flatMap strC++[.string (mtext (k+j))]:=by
 rw[take_flat_succ _ (x:=mtext (k+(j:Int))) (by simp[mkS,h])]
theorem markStrW_any(A:Option Addr)(n c base:Nat)(xs:List Value)(k:Int)(w:World)(hown:w.ownsRow base 9 1 (.slice A n c) n xs)(hn:n≤2000000)(h0:1≤k)(hk:k≤90000000) :
 Calls Tryz.prog 85 #[.slice A n c,.int .i64 k] w fun e w'=>e=.returned (.int .i64 (k+n))∧w'.ownsRow base 9 1 (.slice A n c) n ((mkS k n).flatMap strC)∧w.grownBy w' (Value.slice A n c).ownBlock:=by
 go_enter Tryz.func85,Tryz.ntmps85
 go_wp2;go_loopw [1,5] (fun q i wr=>∃j:Nat,∃ys,j≤n∧i=.int .i64 j∧q=.int .i64 (k+j)∧wr.ownsRow base 9 1 (.slice A n c) n ys∧ys.take j=((mkS k n).take j).flatMap strC∧w.grownBy wr (Value.slice A n c).ownBlock) (fun _ i _=>n-(intOf i).toNat)
 case atStart=>exact⟨0,xs,Nat.zero_le _,rfl,by simp,hown,by simp,World.grownBy.refl w _⟩
 case round =>
  obtain⟨j,ys,hj,rfl,rfl,hown,hys,hg⟩:=hrel
  have HY:=qh hys
  have HG:=qh hg
  clear hys hg;by_cases hlt:j<n
  ·obtain⟨A',c',hv,-,-,hA,-⟩:=own_form hown
   simp only[Value.slice.injEq]at hv
   obtain⟨rfl,-,rfl⟩:=hv
   obtain⟨g,rfl,-,-⟩:=hA (by omega)
   go_wp2_with fail
   refine(markText_any _ _ (by omega) (by omega)).mono ?_
   rintro e w1 ⟨rfl,hup1⟩
   have o1:=own_up hown hup1
   obtain⟨u0,r0⟩:=own_cell o1 (p:=j) (by omega)
   have z0:=o1.frozenAt j
   have S1:=qh (o1.stored j (.string (mtext (k+(j:Int)))))
   have L1:=qh o1.1
   have G1:=qh ((HG.out.trans ((World.grownBy.but (a:=wr) ⟨hup1.os,hup1.tape,hup1.output,hup1.size,fun i hi _=>hup1.block i hi⟩ _))).trans S1.out.2)
   clear o1 hown;go_wp2;go_roundw
   case rel=>exact⟨j+1,_,by omega,by go_num,by go_num,S1.out.1,by rw[take_set_succ (by rw[L1.out];omega),HY.out,mkS_take hlt],G1.out⟩
   case measure=>simp[intOf];omega
  ·go_wp2
   go_ret;have e:j=n:=by omega
   subst e;have hx:=HY.out
   rw[List.take_of_length_le (by rw[hown.1];omega),List.take_of_length_le (by rw[mkS_len];exact Nat.le_refl _)]at hx
   subst hx;exact⟨rfl,hown,HG.out⟩
end Go.Proofs.YtihcmhmanfobcaaGreatDoor
