/- FnExactFewestDoubts, proved: whatever the arguments, the law returns true and the arguments read as before. -/
import Derived.Test.YtihcmhmanfobcaaGreatDoorFewestDoubtsSd
set_option maxHeartbeats 8000000
set_option maxRecDepth 100000
namespace Go.Proofs.YtihcmhmanfobcaaGreatDoor.fnExactFewestDoubts
open Go.ChangeShapes Go.WideShapes Go.ChangeAt Go.RowKit
open Go.ChangeMaps (open_string)
theorem plain(f:FuncId)(fn:Func)(hf:Tryz.pinned.checked.prog.funcNamed Rows.fnExactFewestDoubtsRow.func=some f)(hfn:Tryz.pinned.checked.prog.funcs[f]?=some fn) :
 false=Tryz.pinned.checked.prog.looks []∧∀(j:Nat) t,fn.params[j]?=some t→Tryz.pinned.checked.prog.wantsStandIn t=false:=by
 obtain rfl:f=3:=Option.some.inj ((show Tryz.prog.funcNamed Rows.fnExactFewestDoubtsRow.func=some 3 by kernel_rfl).symm.trans hf) |>.symm
 obtain rfl:fn=Tryz.f3:=(Option.some.inj (Tryz.func3.symm.trans hfn)).symm
 refine⟨by kernel_rfl,fun j t ht=>?_⟩
 have h:∀t∈Tryz.f3.params.toList,Tryz.prog.wantsStandIn t=false:=by
  have h0:(Tryz.f3.params.toList.all fun t=>!Tryz.prog.wantsStandIn t)=true:=by kernel_rfl
  intro t ht
  simpa using List.all_eq_true.1 h0 t ht
 exact h t (Array.mem_toList_iff.2 (Array.mem_of_getElem? ht))
theorem noGo:Tryz.pinned.checked.prog.funcs.any Func.goes=false:=by kernel_rfl
theorem goes_no{P:Program}(h:P.funcs.any Func.goes=false)(f:FuncId):P.goes f=false:=by
 unfold Program.goes
 rw[h,Bool.and_false,Bool.or_false,List.any_eq_false];intro g _
 rcases e:P.funcs[g]? with _|fn
 ·simp
 ·have h2:=Array.any_eq_false.1 h
  obtain⟨hg,e2⟩:=Array.getElem?_eq_some_iff.1 e
  have:=h2 g hg
  rw[e2]at this;simpa using this
theorem noGoes:false=Rows.fnExactFewestDoubtsRow.goesBy Tryz.pinned.checked.prog:=by
 have h1:∀o:Option FuncId,o.any Tryz.pinned.checked.prog.goes=false:=fun o=>by
  rcases o with _|f
  ·rfl
  ·exact goes_no noGo f
 unfold OpenClaim.goesBy Program.goesAt Program.goesFrom
 rw[h1];rfl
theorem card:Rows.FnExactFewestDoubtsCardSaid :=
 Claim7.holds_tied_plain_at .later [] _ _ _ _ said (fun _ h=>by cases h) (by kernel_rfl) (fun _ h=>by cases h) fnExactFewestDoubts_row_tie rfl ⟨rfl,rfl⟩ (by kernel_rfl) rfl plain noGoes
end Go.Proofs.YtihcmhmanfobcaaGreatDoor.fnExactFewestDoubts
