/- Marks on lists of records that the call itself made, and whether they are still held. -/
import Derived.Test.YtihcmhmanfobcaaGreatDoorLib
import Derived.Test.YtihcmhmanfobcaaGreatDoorVl
set_option maxHeartbeats 2000000
set_option maxRecDepth 20000
namespace Go.Proofs.YtihcmhmanfobcaaGreatDoor
open Go.RowKit Go.Sort
theorem grown_up{w w':World}(u:Up w w')(row:Option Nat):w.grownBy w' row:=World.grownBy.but (a:=w) ⟨u.os,u.tape,u.output,u.size,fun i hi _=>u.block i hi⟩ _
def mk1Nm(q0:Int):Nm:=⟨mtext q0,q0+1,q0+1+1⟩
def mkNm(k:Int)(n:Nat):List Nm:=(List.range n).map fun(j:Nat)=>mk1Nm (k+3*(j:Int))
theorem mkNm_len(k:Int)(n:Nat):(mkNm k n).length=n:=by simp[mkNm]
theorem mkNm_get{k:Int}{n j:Nat}(h:j<n):(mkNm k n)[j]?=some (mk1Nm (k+3*(j:Int))):=by simp[mkNm,h]
theorem markReignS_any(A:Option Addr)(n c base:Nat)(xs:List Value)(k:Int)(w:World)(hown:w.ownsRow base 233 3 (.slice A n c) n xs)(hn:n≤2000000)(h0:1≤k)(hk:k≤60000000) :
 Calls Tryz.prog 132 #[.slice A n c,.int .i64 k] w fun e w'=>e=.returned (.int .i64 (k+3*n))∧MkA w w' [⟨233,3,.slice A n c,n,xs⟩] [⟨233,3,.slice A n c,n,(mkNm k n).flatMap Nm.cells⟩]:=by
 have HW:=qh hown
 go_enter Tryz.func132,Tryz.ntmps132
 go_wp2;go_loopw [1,5] (fun q i wr=>∃j:Nat,∃ys,j≤n∧i=.int .i64 j∧q=.int .i64 (k+3*j)∧wr.ownsRow base 233 3 (.slice A n c) n ys∧ys.take (j*3)=((mkNm k n).take j).flatMap Nm.cells∧w.grownBy wr (Value.slice A n c).ownBlock) (fun _ i _=>n-(intOf i).toNat)
 case atStart=>exact⟨0,xs,Nat.zero_le _,rfl,by simp,hown,by simp,World.grownBy.refl w _⟩
 case round =>
  obtain⟨j,ys,hj,rfl,rfl,hown,hys,hg⟩:=hrel
  have HY:=qh hys
  have G:=qh hg
  clear hys hg;by_cases hlt:j<n
  ·obtain⟨A',c',hv,-,-,hA,-⟩:=own_form hown
   simp only[Value.slice.injEq]at hv
   obtain⟨rfl,-,rfl⟩:=hv
   obtain⟨g,rfl,-,-⟩:=hA (by omega)
   have hqb:1≤k+3*(j:Int)∧k+3*(j:Int)≤80000000:=by omega
   have HL:=qh hown.1
   obtain⟨q0,hq⟩:∃q0,q0=k+3*(j:Int):=⟨_,rfl⟩
   have HQ:=qh hq
   rw[← hq]at hqb ⊢
   clear hq;obtain⟨u0,r0⟩:=own_cell hown (p:=j*3) (by omega)
   have z0:=hown.frozenAt (j*3)
   obtain⟨u1,r1⟩:=own_cell hown (p:=j*3+1) (by omega)
   have z1:=hown.frozenAt (j*3+1)
   obtain⟨u2,r2⟩:=own_cell hown (p:=j*3+2) (by omega)
   have z2:=hown.frozenAt (j*3+2)
   have S:=qh (And.intro hown G.out)
   go_wp2_with fail
   refine(markText_any _ _ (by omega) (by omega)).mono ?_
   rintro e w1 ⟨rfl,hup⟩
   clear r0 z0 r1 z1 r2 z2 hown;have hown:=own_up S.out.1 hup
   have G:=qh (S.out.2.trans (grown_up hup _))
   clear S hup;obtain⟨u0,r0⟩:=own_cell hown (p:=j*3) (by omega)
   have z0:=hown.frozenAt (j*3)
   obtain⟨u1,r1⟩:=own_cell hown (p:=j*3+1) (by omega)
   have z1:=hown.frozenAt (j*3+1)
   obtain⟨u2,r2⟩:=own_cell hown (p:=j*3+2) (by omega)
   have z2:=hown.frozenAt (j*3+2)
   have s0:=hown.stored (j*3) (.string (mtext (q0)))
   have s1:=s0.1.stored (j*3+1) (.int .i64 (q0+1))
   have s2:=s1.1.stored (j*3+2) (.int .i64 (q0+1+1))
   have S:=qh (And.intro s2.1 (((G.out.trans s0.2).trans s1.2).trans s2.2))
   clear s0 s1 s2;go_wp2;go_roundw
   case rel=>exact⟨j+1,_,by omega,by go_num,congrArg (Value.int .i64) (by have:=HQ.out;omega),S.out.1,setReign (l:=mkNm k n) (d:=mk1Nm q0) (by rw[mkNm_len];exact HL.out) (by rw[HQ.out];exact mkNm_get hlt) HY.out,S.out.2⟩
   case measure=>simp[intOf];omega
  ·go_wp2
   go_ret;have e:j=n:=by omega
   subst e;have hx:=HY.out
   rw[List.take_of_length_le (by rw[hown.1];omega),List.take_of_length_le (by rw[mkNm_len];exact Nat.le_refl _)]at hx
   subst hx;exact⟨rfl,MkA.leaf (r:=⟨233,3,.slice A j c,j,xs⟩) HW.out hown G.out⟩
theorem markPersonS_any(A:Option Addr)(n c base:Nat)(xs:List Value)(k:Int)(w:World)(hown:w.ownsRow base 229 3 (.slice A n c) n xs)(hn:n≤2000000)(h0:1≤k)(hk:k≤60000000) :
 Calls Tryz.prog 133 #[.slice A n c,.int .i64 k] w fun e w'=>e=.returned (.int .i64 (k+3*n))∧MkA w w' [⟨229,3,.slice A n c,n,xs⟩] [⟨229,3,.slice A n c,n,(mkNm k n).flatMap Nm.cells⟩]:=by
 have HW:=qh hown
 go_enter Tryz.func133,Tryz.ntmps133
 go_wp2;go_loopw [1,5] (fun q i wr=>∃j:Nat,∃ys,j≤n∧i=.int .i64 j∧q=.int .i64 (k+3*j)∧wr.ownsRow base 229 3 (.slice A n c) n ys∧ys.take (j*3)=((mkNm k n).take j).flatMap Nm.cells∧w.grownBy wr (Value.slice A n c).ownBlock) (fun _ i _=>n-(intOf i).toNat)
 case atStart=>exact⟨0,xs,Nat.zero_le _,rfl,by simp,hown,by simp,World.grownBy.refl w _⟩
 case round =>
  obtain⟨j,ys,hj,rfl,rfl,hown,hys,hg⟩:=hrel
  have HY:=qh hys
  have G:=qh hg
  clear hys hg;by_cases hlt:j<n
  ·obtain⟨A',c',hv,-,-,hA,-⟩:=own_form hown
   simp only[Value.slice.injEq]at hv
   obtain⟨rfl,-,rfl⟩:=hv
   obtain⟨g,rfl,-,-⟩:=hA (by omega)
   have hqb:1≤k+3*(j:Int)∧k+3*(j:Int)≤80000000:=by omega
   have HL:=qh hown.1
   obtain⟨q0,hq⟩:∃q0,q0=k+3*(j:Int):=⟨_,rfl⟩
   have HQ:=qh hq
   rw[← hq]at hqb ⊢
   clear hq;obtain⟨u0,r0⟩:=own_cell hown (p:=j*3) (by omega)
   have z0:=hown.frozenAt (j*3)
   obtain⟨u1,r1⟩:=own_cell hown (p:=j*3+1) (by omega)
   have z1:=hown.frozenAt (j*3+1)
   obtain⟨u2,r2⟩:=own_cell hown (p:=j*3+2) (by omega)
   have z2:=hown.frozenAt (j*3+2)
   have S:=qh (And.intro hown G.out)
   go_wp2_with fail
   refine(markText_any _ _ (by omega) (by omega)).mono ?_
   rintro e w1 ⟨rfl,hup⟩
   clear r0 z0 r1 z1 r2 z2 hown;have hown:=own_up S.out.1 hup
   have G:=qh (S.out.2.trans (grown_up hup _))
   clear S hup;obtain⟨u0,r0⟩:=own_cell hown (p:=j*3) (by omega)
   have z0:=hown.frozenAt (j*3)
   obtain⟨u1,r1⟩:=own_cell hown (p:=j*3+1) (by omega)
   have z1:=hown.frozenAt (j*3+1)
   obtain⟨u2,r2⟩:=own_cell hown (p:=j*3+2) (by omega)
   have z2:=hown.frozenAt (j*3+2)
   have s0:=hown.stored (j*3) (.string (mtext (q0)))
   have s1:=s0.1.stored (j*3+1) (.int .i64 (q0+1))
   have s2:=s1.1.stored (j*3+2) (.int .i64 (q0+1+1))
   have S:=qh (And.intro s2.1 (((G.out.trans s0.2).trans s1.2).trans s2.2))
   clear s0 s1 s2;go_wp2;go_roundw
   case rel=>exact⟨j+1,_,by omega,by go_num,congrArg (Value.int .i64) (by have:=HQ.out;omega),S.out.1,setPerson (l:=mkNm k n) (d:=mk1Nm q0) (by rw[mkNm_len];exact HL.out) (by rw[HQ.out];exact mkNm_get hlt) HY.out,S.out.2⟩
   case measure=>simp[intOf];omega
  ·go_wp2
   go_ret;have e:j=n:=by omega
   subst e;have hx:=HY.out
   rw[List.take_of_length_le (by rw[hown.1];omega),List.take_of_length_le (by rw[mkNm_len];exact Nat.le_refl _)]at hx
   subst hx;exact⟨rfl,MkA.leaf (r:=⟨229,3,.slice A j c,j,xs⟩) HW.out hown G.out⟩
theorem markMarkS_any(A:Option Addr)(n c base:Nat)(xs:List Value)(k:Int)(w:World)(hown:w.ownsRow base 174 3 (.slice A n c) n xs)(hn:n≤2000000)(h0:1≤k)(hk:k≤60000000) :
 Calls Tryz.prog 81 #[.slice A n c,.int .i64 k] w fun e w'=>e=.returned (.int .i64 (k+3*n))∧MkA w w' [⟨174,3,.slice A n c,n,xs⟩] [⟨174,3,.slice A n c,n,(mkNm k n).flatMap Nm.cells⟩]:=by
 have HW:=qh hown
 go_enter Tryz.func81,Tryz.ntmps81
 go_wp2;go_loopw [1,5] (fun q i wr=>∃j:Nat,∃ys,j≤n∧i=.int .i64 j∧q=.int .i64 (k+3*j)∧wr.ownsRow base 174 3 (.slice A n c) n ys∧ys.take (j*3)=((mkNm k n).take j).flatMap Nm.cells∧w.grownBy wr (Value.slice A n c).ownBlock) (fun _ i _=>n-(intOf i).toNat)
 case atStart=>exact⟨0,xs,Nat.zero_le _,rfl,by simp,hown,by simp,World.grownBy.refl w _⟩
 case round =>
  obtain⟨j,ys,hj,rfl,rfl,hown,hys,hg⟩:=hrel
  have HY:=qh hys
  have G:=qh hg
  clear hys hg;by_cases hlt:j<n
  ·obtain⟨A',c',hv,-,-,hA,-⟩:=own_form hown
   simp only[Value.slice.injEq]at hv
   obtain⟨rfl,-,rfl⟩:=hv
   obtain⟨g,rfl,-,-⟩:=hA (by omega)
   have hqb:1≤k+3*(j:Int)∧k+3*(j:Int)≤80000000:=by omega
   have HL:=qh hown.1
   obtain⟨q0,hq⟩:∃q0,q0=k+3*(j:Int):=⟨_,rfl⟩
   have HQ:=qh hq
   rw[← hq]at hqb ⊢
   clear hq;obtain⟨u0,r0⟩:=own_cell hown (p:=j*3) (by omega)
   have z0:=hown.frozenAt (j*3)
   obtain⟨u1,r1⟩:=own_cell hown (p:=j*3+1) (by omega)
   have z1:=hown.frozenAt (j*3+1)
   obtain⟨u2,r2⟩:=own_cell hown (p:=j*3+2) (by omega)
   have z2:=hown.frozenAt (j*3+2)
   have S:=qh (And.intro hown G.out)
   go_wp2_with fail
   refine(markText_any _ _ (by omega) (by omega)).mono ?_
   rintro e w1 ⟨rfl,hup⟩
   clear r0 z0 r1 z1 r2 z2 hown;have hown:=own_up S.out.1 hup
   have G:=qh (S.out.2.trans (grown_up hup _))
   clear S hup;obtain⟨u0,r0⟩:=own_cell hown (p:=j*3) (by omega)
   have z0:=hown.frozenAt (j*3)
   obtain⟨u1,r1⟩:=own_cell hown (p:=j*3+1) (by omega)
   have z1:=hown.frozenAt (j*3+1)
   obtain⟨u2,r2⟩:=own_cell hown (p:=j*3+2) (by omega)
   have z2:=hown.frozenAt (j*3+2)
   have s0:=hown.stored (j*3) (.string (mtext (q0)))
   have s1:=s0.1.stored (j*3+1) (.int .i64 (q0+1))
   have s2:=s1.1.stored (j*3+2) (.int .i64 (q0+1+1))
   have S:=qh (And.intro s2.1 (((G.out.trans s0.2).trans s1.2).trans s2.2))
   clear s0 s1 s2;go_wp2;go_roundw
   case rel=>exact⟨j+1,_,by omega,by go_num,congrArg (Value.int .i64) (by have:=HQ.out;omega),S.out.1,setMark (l:=mkNm k n) (d:=mk1Nm q0) (by rw[mkNm_len];exact HL.out) (by rw[HQ.out];exact mkNm_get hlt) HY.out,S.out.2⟩
   case measure=>simp[intOf];omega
  ·go_wp2
   go_ret;have e:j=n:=by omega
   subst e;have hx:=HY.out
   rw[List.take_of_length_le (by rw[hown.1];omega),List.take_of_length_le (by rw[mkNm_len];exact Nat.le_refl _)]at hx
   subst hx;exact⟨rfl,MkA.leaf (r:=⟨174,3,.slice A j c,j,xs⟩) HW.out hown G.out⟩
def mk1Tm(q0:Int):Tm:=⟨mtext q0,mtext (q0+1),q0+1+1,q0+1+1+1⟩
def mkTm(k:Int)(n:Nat):List Tm:=(List.range n).map fun(j:Nat)=>mk1Tm (k+4*(j:Int))
theorem mkTm_len(k:Int)(n:Nat):(mkTm k n).length=n:=by simp[mkTm]
theorem mkTm_get{k:Int}{n j:Nat}(h:j<n):(mkTm k n)[j]?=some (mk1Tm (k+4*(j:Int))):=by simp[mkTm,h]
theorem markTermS_any(A:Option Addr)(n c base:Nat)(xs:List Value)(k:Int)(w:World)(hown:w.ownsRow base 236 4 (.slice A n c) n xs)(hn:n≤2000000)(h0:1≤k)(hk:k≤60000000) :
 Calls Tryz.prog 134 #[.slice A n c,.int .i64 k] w fun e w'=>e=.returned (.int .i64 (k+4*n))∧MkA w w' [⟨236,4,.slice A n c,n,xs⟩] [⟨236,4,.slice A n c,n,(mkTm k n).flatMap Tm.cells⟩]:=by
 have HW:=qh hown
 go_enter Tryz.func134,Tryz.ntmps134
 go_wp2;go_loopw [1,5] (fun q i wr=>∃j:Nat,∃ys,j≤n∧i=.int .i64 j∧q=.int .i64 (k+4*j)∧wr.ownsRow base 236 4 (.slice A n c) n ys∧ys.take (j*4)=((mkTm k n).take j).flatMap Tm.cells∧w.grownBy wr (Value.slice A n c).ownBlock) (fun _ i _=>n-(intOf i).toNat)
 case atStart=>exact⟨0,xs,Nat.zero_le _,rfl,by simp,hown,by simp,World.grownBy.refl w _⟩
 case round =>
  obtain⟨j,ys,hj,rfl,rfl,hown,hys,hg⟩:=hrel
  have HY:=qh hys
  have G:=qh hg
  clear hys hg;by_cases hlt:j<n
  ·obtain⟨A',c',hv,-,-,hA,-⟩:=own_form hown
   simp only[Value.slice.injEq]at hv
   obtain⟨rfl,-,rfl⟩:=hv
   obtain⟨g,rfl,-,-⟩:=hA (by omega)
   have hqb:1≤k+4*(j:Int)∧k+4*(j:Int)≤80000000:=by omega
   have HL:=qh hown.1
   obtain⟨q0,hq⟩:∃q0,q0=k+4*(j:Int):=⟨_,rfl⟩
   have HQ:=qh hq
   rw[← hq]at hqb ⊢
   clear hq;obtain⟨u0,r0⟩:=own_cell hown (p:=j*4) (by omega)
   have z0:=hown.frozenAt (j*4)
   obtain⟨u1,r1⟩:=own_cell hown (p:=j*4+1) (by omega)
   have z1:=hown.frozenAt (j*4+1)
   obtain⟨u2,r2⟩:=own_cell hown (p:=j*4+2) (by omega)
   have z2:=hown.frozenAt (j*4+2)
   obtain⟨u3,r3⟩:=own_cell hown (p:=j*4+3) (by omega)
   have z3:=hown.frozenAt (j*4+3)
   have S:=qh (And.intro hown G.out)
   go_wp2_with fail
   refine(markText_any _ _ (by omega) (by omega)).mono ?_
   rintro e w1 ⟨rfl,hup⟩
   clear r0 z0 r1 z1 r2 z2 r3 z3 hown;have hown:=own_up S.out.1 hup
   have G:=qh (S.out.2.trans (grown_up hup _))
   clear S hup;obtain⟨u0,r0⟩:=own_cell hown (p:=j*4) (by omega)
   have z0:=hown.frozenAt (j*4)
   obtain⟨u1,r1⟩:=own_cell hown (p:=j*4+1) (by omega)
   have z1:=hown.frozenAt (j*4+1)
   obtain⟨u2,r2⟩:=own_cell hown (p:=j*4+2) (by omega)
   have z2:=hown.frozenAt (j*4+2)
   obtain⟨u3,r3⟩:=own_cell hown (p:=j*4+3) (by omega)
   have z3:=hown.frozenAt (j*4+3)
   have s0:=hown.stored (j*4) (.string (mtext (q0)))
   have S:=qh (And.intro s0.1 (G.out.trans s0.2))
   clear s0;go_wp2_with fail
   refine(markText_any _ _ (by omega) (by omega)).mono ?_
   rintro e w2 ⟨rfl,hup⟩
   clear r0 z0 r1 z1 r2 z2 r3 z3 hown;have hown:=own_up S.out.1 hup
   have G:=qh (S.out.2.trans (grown_up hup _))
   clear S hup;obtain⟨u0,r0⟩:=own_cell hown (p:=j*4) (by omega)
   have z0:=hown.frozenAt (j*4)
   obtain⟨u1,r1⟩:=own_cell hown (p:=j*4+1) (by omega)
   have z1:=hown.frozenAt (j*4+1)
   obtain⟨u2,r2⟩:=own_cell hown (p:=j*4+2) (by omega)
   have z2:=hown.frozenAt (j*4+2)
   obtain⟨u3,r3⟩:=own_cell hown (p:=j*4+3) (by omega)
   have z3:=hown.frozenAt (j*4+3)
   have s0:=hown.stored (j*4+1) (.string (mtext (q0+1)))
   have s1:=s0.1.stored (j*4+2) (.int .i64 (q0+1+1))
   have s2:=s1.1.stored (j*4+3) (.int .i64 (q0+1+1+1))
   have S:=qh (And.intro s2.1 (((G.out.trans s0.2).trans s1.2).trans s2.2))
   clear s0 s1 s2;go_wp2;go_roundw
   case rel=>exact⟨j+1,_,by omega,by go_num,congrArg (Value.int .i64) (by have:=HQ.out;omega),S.out.1,setTerm (l:=mkTm k n) (d:=mk1Tm q0) (by rw[mkTm_len];exact HL.out) (by rw[HQ.out];exact mkTm_get hlt) HY.out,S.out.2⟩
   case measure=>simp[intOf];omega
  ·go_wp2
   go_ret;have e:j=n:=by omega
   subst e;have hx:=HY.out
   rw[List.take_of_length_le (by rw[hown.1];omega),List.take_of_length_le (by rw[mkTm_len];exact Nat.le_refl _)]at hx
   subst hx;exact⟨rfl,MkA.leaf (r:=⟨236,4,.slice A j c,j,xs⟩) HW.out hown G.out⟩
def mk1I3(q0:Int):I3:=⟨q0,q0+1,q0+1+1⟩
def mkI3(k:Int)(n:Nat):List I3:=(List.range n).map fun(j:Nat)=>mk1I3 (k+3*(j:Int))
theorem mkI3_len(k:Int)(n:Nat):(mkI3 k n).length=n:=by simp[mkI3]
theorem mkI3_get{k:Int}{n j:Nat}(h:j<n):(mkI3 k n)[j]?=some (mk1I3 (k+3*(j:Int))):=by simp[mkI3,h]
theorem markWayS_any(A:Option Addr)(n c base:Nat)(xs:List Value)(k:Int)(w:World)(hown:w.ownsRow base 232 3 (.slice A n c) n xs)(hn:n≤2000000)(h0:1≤k)(hk:k≤60000000) :
 Calls Tryz.prog 135 #[.slice A n c,.int .i64 k] w fun e w'=>e=.returned (.int .i64 (k+3*n))∧MkA w w' [⟨232,3,.slice A n c,n,xs⟩] [⟨232,3,.slice A n c,n,(mkI3 k n).flatMap I3.cells⟩]:=by
 have HW:=qh hown
 go_enter Tryz.func135,Tryz.ntmps135
 go_wp2;go_loopw [1,5] (fun q i wr=>∃j:Nat,∃ys,j≤n∧i=.int .i64 j∧q=.int .i64 (k+3*j)∧wr.ownsRow base 232 3 (.slice A n c) n ys∧ys.take (j*3)=((mkI3 k n).take j).flatMap I3.cells∧w.grownBy wr (Value.slice A n c).ownBlock) (fun _ i _=>n-(intOf i).toNat)
 case atStart=>exact⟨0,xs,Nat.zero_le _,rfl,by simp,hown,by simp,World.grownBy.refl w _⟩
 case round =>
  obtain⟨j,ys,hj,rfl,rfl,hown,hys,hg⟩:=hrel
  have HY:=qh hys
  have G:=qh hg
  clear hys hg;by_cases hlt:j<n
  ·obtain⟨A',c',hv,-,-,hA,-⟩:=own_form hown
   simp only[Value.slice.injEq]at hv
   obtain⟨rfl,-,rfl⟩:=hv
   obtain⟨g,rfl,-,-⟩:=hA (by omega)
   have hqb:1≤k+3*(j:Int)∧k+3*(j:Int)≤80000000:=by omega
   have HL:=qh hown.1
   obtain⟨q0,hq⟩:∃q0,q0=k+3*(j:Int):=⟨_,rfl⟩
   have HQ:=qh hq
   rw[← hq]at hqb ⊢
   clear hq;obtain⟨u0,r0⟩:=own_cell hown (p:=j*3) (by omega)
   have z0:=hown.frozenAt (j*3)
   obtain⟨u1,r1⟩:=own_cell hown (p:=j*3+1) (by omega)
   have z1:=hown.frozenAt (j*3+1)
   obtain⟨u2,r2⟩:=own_cell hown (p:=j*3+2) (by omega)
   have z2:=hown.frozenAt (j*3+2)
   have s0:=hown.stored (j*3) (.int .i64 (q0))
   have s1:=s0.1.stored (j*3+1) (.int .i64 (q0+1))
   have s2:=s1.1.stored (j*3+2) (.int .i64 (q0+1+1))
   have S:=qh (And.intro s2.1 (((G.out.trans s0.2).trans s1.2).trans s2.2))
   clear s0 s1 s2;go_wp2;go_roundw
   case rel=>exact⟨j+1,_,by omega,by go_num,congrArg (Value.int .i64) (by have:=HQ.out;omega),S.out.1,setWay (l:=mkI3 k n) (d:=mk1I3 q0) (by rw[mkI3_len];exact HL.out) (by rw[HQ.out];exact mkI3_get hlt) HY.out,S.out.2⟩
   case measure=>simp[intOf];omega
  ·go_wp2
   go_ret;have e:j=n:=by omega
   subst e;have hx:=HY.out
   rw[List.take_of_length_le (by rw[hown.1];omega),List.take_of_length_le (by rw[mkI3_len];exact Nat.le_refl _)]at hx
   subst hx;exact⟨rfl,MkA.leaf (r:=⟨232,3,.slice A j c,j,xs⟩) HW.out hown G.out⟩
theorem markStayS_any(A:Option Addr)(n c base:Nat)(xs:List Value)(k:Int)(w:World)(hown:w.ownsRow base 172 3 (.slice A n c) n xs)(hn:n≤2000000)(h0:1≤k)(hk:k≤60000000) :
 Calls Tryz.prog 80 #[.slice A n c,.int .i64 k] w fun e w'=>e=.returned (.int .i64 (k+3*n))∧MkA w w' [⟨172,3,.slice A n c,n,xs⟩] [⟨172,3,.slice A n c,n,(mkI3 k n).flatMap I3.cells⟩]:=by
 have HW:=qh hown
 go_enter Tryz.func80,Tryz.ntmps80
 go_wp2;go_loopw [1,5] (fun q i wr=>∃j:Nat,∃ys,j≤n∧i=.int .i64 j∧q=.int .i64 (k+3*j)∧wr.ownsRow base 172 3 (.slice A n c) n ys∧ys.take (j*3)=((mkI3 k n).take j).flatMap I3.cells∧w.grownBy wr (Value.slice A n c).ownBlock) (fun _ i _=>n-(intOf i).toNat)
 case atStart=>exact⟨0,xs,Nat.zero_le _,rfl,by simp,hown,by simp,World.grownBy.refl w _⟩
 case round =>
  obtain⟨j,ys,hj,rfl,rfl,hown,hys,hg⟩:=hrel
  have HY:=qh hys
  have G:=qh hg
  clear hys hg;by_cases hlt:j<n
  ·obtain⟨A',c',hv,-,-,hA,-⟩:=own_form hown
   simp only[Value.slice.injEq]at hv
   obtain⟨rfl,-,rfl⟩:=hv
   obtain⟨g,rfl,-,-⟩:=hA (by omega)
   have hqb:1≤k+3*(j:Int)∧k+3*(j:Int)≤80000000:=by omega
   have HL:=qh hown.1
   obtain⟨q0,hq⟩:∃q0,q0=k+3*(j:Int):=⟨_,rfl⟩
   have HQ:=qh hq
   rw[← hq]at hqb ⊢
   clear hq;obtain⟨u0,r0⟩:=own_cell hown (p:=j*3) (by omega)
   have z0:=hown.frozenAt (j*3)
   obtain⟨u1,r1⟩:=own_cell hown (p:=j*3+1) (by omega)
   have z1:=hown.frozenAt (j*3+1)
   obtain⟨u2,r2⟩:=own_cell hown (p:=j*3+2) (by omega)
   have z2:=hown.frozenAt (j*3+2)
   have s0:=hown.stored (j*3) (.int .i64 (q0))
   have s1:=s0.1.stored (j*3+1) (.int .i64 (q0+1))
   have s2:=s1.1.stored (j*3+2) (.int .i64 (q0+1+1))
   have S:=qh (And.intro s2.1 (((G.out.trans s0.2).trans s1.2).trans s2.2))
   clear s0 s1 s2;go_wp2;go_roundw
   case rel=>exact⟨j+1,_,by omega,by go_num,congrArg (Value.int .i64) (by have:=HQ.out;omega),S.out.1,setStay (l:=mkI3 k n) (d:=mk1I3 q0) (by rw[mkI3_len];exact HL.out) (by rw[HQ.out];exact mkI3_get hlt) HY.out,S.out.2⟩
   case measure=>simp[intOf];omega
  ·go_wp2
   go_ret;have e:j=n:=by omega
   subst e;have hx:=HY.out
   rw[List.take_of_length_le (by rw[hown.1];omega),List.take_of_length_le (by rw[mkI3_len];exact Nat.le_refl _)]at hx
   subst hx;exact⟨rfl,MkA.leaf (r:=⟨172,3,.slice A j c,j,xs⟩) HW.out hown G.out⟩
def mk1Cl(q0:Int):Cl:=⟨q0,q0+1,q0+1+1,q0+1+1+1,q0+1+1+1+1,q0+1+1+1+1+1,q0+1+1+1+1+1+1,mtext (q0+1+1+1+1+1+1+1)⟩
def mkCl(k:Int)(n:Nat):List Cl:=(List.range n).map fun(j:Nat)=>mk1Cl (k+8*(j:Int))
theorem mkCl_len(k:Int)(n:Nat):(mkCl k n).length=n:=by simp[mkCl]
theorem mkCl_get{k:Int}{n j:Nat}(h:j<n):(mkCl k n)[j]?=some (mk1Cl (k+8*(j:Int))):=by simp[mkCl,h]
theorem markClauseS_any(A:Option Addr)(n c base:Nat)(xs:List Value)(k:Int)(w:World)(hown:w.ownsRow base 209 8 (.slice A n c) n xs)(hn:n≤2000000)(h0:1≤k)(hk:k≤60000000) :
 Calls Tryz.prog 83 #[.slice A n c,.int .i64 k] w fun e w'=>e=.returned (.int .i64 (k+8*n))∧MkA w w' [⟨209,8,.slice A n c,n,xs⟩] [⟨209,8,.slice A n c,n,(mkCl k n).flatMap Cl.cells⟩]:=by
 have HW:=qh hown
 go_enter Tryz.func83,Tryz.ntmps83
 go_wp2;go_loopw [1,5] (fun q i wr=>∃j:Nat,∃ys,j≤n∧i=.int .i64 j∧q=.int .i64 (k+8*j)∧wr.ownsRow base 209 8 (.slice A n c) n ys∧ys.take (j*8)=((mkCl k n).take j).flatMap Cl.cells∧w.grownBy wr (Value.slice A n c).ownBlock) (fun _ i _=>n-(intOf i).toNat)
 case atStart=>exact⟨0,xs,Nat.zero_le _,rfl,by simp,hown,by simp,World.grownBy.refl w _⟩
 case round =>
  obtain⟨j,ys,hj,rfl,rfl,hown,hys,hg⟩:=hrel
  have HY:=qh hys
  have G:=qh hg
  clear hys hg;by_cases hlt:j<n
  ·obtain⟨A',c',hv,-,-,hA,-⟩:=own_form hown
   simp only[Value.slice.injEq]at hv
   obtain⟨rfl,-,rfl⟩:=hv
   obtain⟨g,rfl,-,-⟩:=hA (by omega)
   have hqb:1≤k+8*(j:Int)∧k+8*(j:Int)≤80000000:=by omega
   have HL:=qh hown.1
   obtain⟨q0,hq⟩:∃q0,q0=k+8*(j:Int):=⟨_,rfl⟩
   have HQ:=qh hq
   rw[← hq]at hqb ⊢
   clear hq;obtain⟨u0,r0⟩:=own_cell hown (p:=j*8) (by omega)
   have z0:=hown.frozenAt (j*8)
   obtain⟨u1,r1⟩:=own_cell hown (p:=j*8+1) (by omega)
   have z1:=hown.frozenAt (j*8+1)
   obtain⟨u2,r2⟩:=own_cell hown (p:=j*8+2) (by omega)
   have z2:=hown.frozenAt (j*8+2)
   obtain⟨u3,r3⟩:=own_cell hown (p:=j*8+3) (by omega)
   have z3:=hown.frozenAt (j*8+3)
   obtain⟨u4,r4⟩:=own_cell hown (p:=j*8+4) (by omega)
   have z4:=hown.frozenAt (j*8+4)
   obtain⟨u5,r5⟩:=own_cell hown (p:=j*8+5) (by omega)
   have z5:=hown.frozenAt (j*8+5)
   obtain⟨u6,r6⟩:=own_cell hown (p:=j*8+6) (by omega)
   have z6:=hown.frozenAt (j*8+6)
   obtain⟨u7,r7⟩:=own_cell hown (p:=j*8+7) (by omega)
   have z7:=hown.frozenAt (j*8+7)
   have s0:=hown.stored (j*8) (.int .i64 (q0))
   have s1:=s0.1.stored (j*8+1) (.int .i64 (q0+1))
   have s2:=s1.1.stored (j*8+2) (.int .i64 (q0+1+1))
   have s3:=s2.1.stored (j*8+3) (.int .i64 (q0+1+1+1))
   have s4:=s3.1.stored (j*8+4) (.int .i64 (q0+1+1+1+1))
   have s5:=s4.1.stored (j*8+5) (.int .i64 (q0+1+1+1+1+1))
   have s6:=s5.1.stored (j*8+6) (.int .i64 (q0+1+1+1+1+1+1))
   have S:=qh (And.intro s6.1 (((((((G.out.trans s0.2).trans s1.2).trans s2.2).trans s3.2).trans s4.2).trans s5.2).trans s6.2))
   clear s0 s1 s2 s3 s4 s5 s6;go_wp2_with fail
   refine(markText_any _ _ (by omega) (by omega)).mono ?_
   rintro e w1 ⟨rfl,hup⟩
   clear r0 z0 r1 z1 r2 z2 r3 z3 r4 z4 r5 z5 r6 z6 r7 z7 hown;have hown:=own_up S.out.1 hup
   have G:=qh (S.out.2.trans (grown_up hup _))
   clear S hup;obtain⟨u0,r0⟩:=own_cell hown (p:=j*8) (by omega)
   have z0:=hown.frozenAt (j*8)
   obtain⟨u1,r1⟩:=own_cell hown (p:=j*8+1) (by omega)
   have z1:=hown.frozenAt (j*8+1)
   obtain⟨u2,r2⟩:=own_cell hown (p:=j*8+2) (by omega)
   have z2:=hown.frozenAt (j*8+2)
   obtain⟨u3,r3⟩:=own_cell hown (p:=j*8+3) (by omega)
   have z3:=hown.frozenAt (j*8+3)
   obtain⟨u4,r4⟩:=own_cell hown (p:=j*8+4) (by omega)
   have z4:=hown.frozenAt (j*8+4)
   obtain⟨u5,r5⟩:=own_cell hown (p:=j*8+5) (by omega)
   have z5:=hown.frozenAt (j*8+5)
   obtain⟨u6,r6⟩:=own_cell hown (p:=j*8+6) (by omega)
   have z6:=hown.frozenAt (j*8+6)
   obtain⟨u7,r7⟩:=own_cell hown (p:=j*8+7) (by omega)
   have z7:=hown.frozenAt (j*8+7)
   have s0:=hown.stored (j*8+7) (.string (mtext (q0+1+1+1+1+1+1+1)))
   have S:=qh (And.intro s0.1 (G.out.trans s0.2))
   clear s0;go_wp2;go_roundw
   case rel=>exact⟨j+1,_,by omega,by go_num,congrArg (Value.int .i64) (by have:=HQ.out;omega),S.out.1,setClause (l:=mkCl k n) (d:=mk1Cl q0) (by rw[mkCl_len];exact HL.out) (by rw[HQ.out];exact mkCl_get hlt) HY.out,S.out.2⟩
   case measure=>simp[intOf];omega
  ·go_wp2
   go_ret;have e:j=n:=by omega
   subst e;have hx:=HY.out
   rw[List.take_of_length_le (by rw[hown.1];omega),List.take_of_length_le (by rw[mkCl_len];exact Nat.le_refl _)]at hx
   subst hx;exact⟨rfl,MkA.leaf (r:=⟨209,8,.slice A j c,j,xs⟩) HW.out hown G.out⟩
def mk1Wi(q0:Int):Wi:=⟨mtext q0,mtext (q0+1)⟩
def mkWi(k:Int)(n:Nat):List Wi:=(List.range n).map fun(j:Nat)=>mk1Wi (k+2*(j:Int))
theorem mkWi_len(k:Int)(n:Nat):(mkWi k n).length=n:=by simp[mkWi]
theorem mkWi_get{k:Int}{n j:Nat}(h:j<n):(mkWi k n)[j]?=some (mk1Wi (k+2*(j:Int))):=by simp[mkWi,h]
theorem markWitnessS_any(A:Option Addr)(n c base:Nat)(xs:List Value)(k:Int)(w:World)(hown:w.ownsRow base 167 2 (.slice A n c) n xs)(hn:n≤2000000)(h0:1≤k)(hk:k≤60000000) :
 Calls Tryz.prog 84 #[.slice A n c,.int .i64 k] w fun e w'=>e=.returned (.int .i64 (k+2*n))∧MkA w w' [⟨167,2,.slice A n c,n,xs⟩] [⟨167,2,.slice A n c,n,(mkWi k n).flatMap Wi.cells⟩]:=by
 have HW:=qh hown
 go_enter Tryz.func84,Tryz.ntmps84
 go_wp2;go_loopw [1,5] (fun q i wr=>∃j:Nat,∃ys,j≤n∧i=.int .i64 j∧q=.int .i64 (k+2*j)∧wr.ownsRow base 167 2 (.slice A n c) n ys∧ys.take (j*2)=((mkWi k n).take j).flatMap Wi.cells∧w.grownBy wr (Value.slice A n c).ownBlock) (fun _ i _=>n-(intOf i).toNat)
 case atStart=>exact⟨0,xs,Nat.zero_le _,rfl,by simp,hown,by simp,World.grownBy.refl w _⟩
 case round =>
  obtain⟨j,ys,hj,rfl,rfl,hown,hys,hg⟩:=hrel
  have HY:=qh hys
  have G:=qh hg
  clear hys hg;by_cases hlt:j<n
  ·obtain⟨A',c',hv,-,-,hA,-⟩:=own_form hown
   simp only[Value.slice.injEq]at hv
   obtain⟨rfl,-,rfl⟩:=hv
   obtain⟨g,rfl,-,-⟩:=hA (by omega)
   have hqb:1≤k+2*(j:Int)∧k+2*(j:Int)≤80000000:=by omega
   have HL:=qh hown.1
   obtain⟨q0,hq⟩:∃q0,q0=k+2*(j:Int):=⟨_,rfl⟩
   have HQ:=qh hq
   rw[← hq]at hqb ⊢
   clear hq;obtain⟨u0,r0⟩:=own_cell hown (p:=j*2) (by omega)
   have z0:=hown.frozenAt (j*2)
   obtain⟨u1,r1⟩:=own_cell hown (p:=j*2+1) (by omega)
   have z1:=hown.frozenAt (j*2+1)
   have S:=qh (And.intro hown G.out)
   go_wp2_with fail
   refine(markText_any _ _ (by omega) (by omega)).mono ?_
   rintro e w1 ⟨rfl,hup⟩
   clear r0 z0 r1 z1 hown;have hown:=own_up S.out.1 hup
   have G:=qh (S.out.2.trans (grown_up hup _))
   clear S hup;obtain⟨u0,r0⟩:=own_cell hown (p:=j*2) (by omega)
   have z0:=hown.frozenAt (j*2)
   obtain⟨u1,r1⟩:=own_cell hown (p:=j*2+1) (by omega)
   have z1:=hown.frozenAt (j*2+1)
   have s0:=hown.stored (j*2) (.string (mtext (q0)))
   have S:=qh (And.intro s0.1 (G.out.trans s0.2))
   clear s0;go_wp2_with fail
   refine(markText_any _ _ (by omega) (by omega)).mono ?_
   rintro e w2 ⟨rfl,hup⟩
   clear r0 z0 r1 z1 hown;have hown:=own_up S.out.1 hup
   have G:=qh (S.out.2.trans (grown_up hup _))
   clear S hup;obtain⟨u0,r0⟩:=own_cell hown (p:=j*2) (by omega)
   have z0:=hown.frozenAt (j*2)
   obtain⟨u1,r1⟩:=own_cell hown (p:=j*2+1) (by omega)
   have z1:=hown.frozenAt (j*2+1)
   have s0:=hown.stored (j*2+1) (.string (mtext (q0+1)))
   have S:=qh (And.intro s0.1 (G.out.trans s0.2))
   clear s0;go_wp2;go_roundw
   case rel=>exact⟨j+1,_,by omega,by go_num,congrArg (Value.int .i64) (by have:=HQ.out;omega),S.out.1,setWitness (l:=mkWi k n) (d:=mk1Wi q0) (by rw[mkWi_len];exact HL.out) (by rw[HQ.out];exact mkWi_get hlt) HY.out,S.out.2⟩
   case measure=>simp[intOf];omega
  ·go_wp2
   go_ret;have e:j=n:=by omega
   subst e;have hx:=HY.out
   rw[List.take_of_length_le (by rw[hown.1];omega),List.take_of_length_le (by rw[mkWi_len];exact Nat.le_refl _)]at hx
   subst hx;exact⟨rfl,MkA.leaf (r:=⟨167,2,.slice A j c,j,xs⟩) HW.out hown G.out⟩
end Go.Proofs.YtihcmhmanfobcaaGreatDoor
