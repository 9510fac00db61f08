/- The law package's helpers over slices of flat structs: sizes, new copies, equality of copies that say the same: Reign, Person, Mark, Term. -/
import Derived.Test.YtihcmhmanfobcaaGreatDoorVa
set_option maxHeartbeats 1000000
namespace Go.Proofs.YtihcmhmanfobcaaGreatDoor
open Go.RowKit Go.Sort
theorem szReign_any(d:Nm)(hd:d.ok)(left:Int)(w:World)(h0:0≤left)(hl:left≤2000000) :
 Calls Tryz.prog 136 #[d.val,.int .i64 left] w fun e w'=>∃z,e=.returned (.int .i64 z)∧z≤left∧Up w w':=by
 have h1:d.nm.size≤maxLen:=hd
 unfold maxLen at h1
 by_cases c1:left<(d.nm.size:Nat)
 ·go_enter Tryz.func136,Tryz.ntmps136
  go_wp2;go_ret;exact⟨_,rfl,by omega,Up.alloc _ _⟩
 ·go_enter Tryz.func136,Tryz.ntmps136
  go_wp2;go_ret;exact⟨_,rfl,by omega,Up.alloc _ _⟩
theorem szReignS_any(A:Option Addr)(l:List Nm)(c lo hi:Nat)(left:Int)(w:World)(hr:RdNm w lo hi A l)(hhi:hi≤w.heap.size)(hok:∀d∈l,Nm.ok d)(h0:0≤left)(hl:left≤2000000)(hn:l.length≤maxLen) :
 Calls Tryz.prog 86 #[.slice A l.length c,.int .i64 left] w fun e w'=>∃z:Int,e=.returned (.int .i64 z)∧z≤left∧(z<0∨z+(l.length:Int)≤left)∧Up w w':=by
 unfold maxLen at hn
 by_cases c1:left<l.length
 ·go_enter Tryz.func86,Tryz.ntmps86
  go_wp2;go_ret;exact⟨-1,rfl,by omega,.inl (by omega),Up.refl _⟩
 ·go_enter Tryz.func86,Tryz.ntmps86
  have hb0:decide (left-(l.length:Int)<0)=false:=by simp;omega
  go_wp2;go_loopw [4,1,5] (fun r lf i wr=>∃k:Nat,∃z:Int,k≤l.length∧i=.int .i64 k∧lf=.int .i64 z∧0≤z∧z+(l.length:Int)≤left∧Up w wr) (fun _ _ i _=>l.length-(intOf i).toNat)
  case atStart=>exact⟨0,_,Nat.zero_le _,rfl,rfl,by omega,by omega,Up.refl _⟩
  case round =>
   obtain⟨k,z,hk,rfl,rfl,hz0,hz1,hup⟩:=hrel
   by_cases hlt:k<l.length
   ·obtain⟨b,off,d,rfl,hlo,hb,hd,q0,q1,q2⟩:=(hr.up hup hhi).nm hlt
    have HD:=qh hd
    clear hd;go_wp2_with fail
    refine(szReign_any d (hok d (List.mem_of_getElem? HD.out)) _ _ (by omega) (by omega)).mono ?_
    rintro e w' ⟨z',rfl,hz',hup'⟩
    by_cases c2:z' < 0
    ·have hdec:decide (z' < 0)=true:=by simpa using c2
     go_wp2;go_ret;exact⟨-1,rfl,by omega,.inl (by omega),hup.trans hup'⟩
    ·have hdec:decide (z' < 0)=false:=by simpa using c2
     go_wp2;go_roundw
     case rel=>exact⟨k+1,_,by omega,by go_num,rfl,by omega,by omega,hup.trans hup'⟩
     case measure=>simp[intOf];omega
   ·go_wp2
    go_ret;exact⟨z,rfl,by omega,.inr (by omega),hup⟩
theorem infoReign:(Tryz.prog.info? 233).map (fun i=>(i.zero,i.size,i.bytes))=some (some (.agg #[.string ByteArray.empty,.int .i64 0,.int .i64 0]),3,32):=by kernel_rfl
theorem toReign_any(d:Nm)(w:World) :
 Calls Tryz.prog 149 #[d.val] w fun e w'=>e=.returned d.val∧Up w w':=by
 go_enter Tryz.func149,Tryz.ntmps149
 go_wp2;exact bodyPost_ret (v:=d.val) (by simp[results,Tryz.results149,go_sem]) rfl ⟨rfl,by repeat (first|exact Up.alloc _ _|refine Up.allocs ?_ _|refine Up.setCell ?_ (by simp;try omega) _)⟩
theorem setReign{xs:List Value}{l:List Nm}{k:Nat}{d:Nm}(hx:xs.length=l.length*3)(hd:l[k]?=some d)(ht:xs.take (k*3)=(l.take k).flatMap Nm.cells) :
 ((((xs.set (k*3) (.string d.nm)).set (k*3+1) (.int .i64 d.fr)).set (k*3+2) (.int .i64 d.to_))).take ((k+1)*3)=(l.take (k+1)).flatMap Nm.cells:=by
 have hk:k<l.length:=(List.getElem?_eq_some_iff.1 hd).1
 rw[take_flat_succ _ hd,show(k+1)*3=k*3+2+1 by omega,take_set_succ (by simp;omega),take_set_succ (by simp;omega),take_set_succ (by omega),ht]
 simp
theorem toReignS_any(A:Option Addr)(l:List Nm)(c lo hi:Nat)(w:World)(hr:RdNm w lo hi A l)(hhi:hi≤w.heap.size)(hn:l.length≤2000000) :
 Calls Tryz.prog 102 #[.slice A l.length c] w fun e w'=>∃v,e=.returned v∧w'.ownsRow w.heap.size 233 3 v l.length (l.flatMap Nm.cells)∧Up w w':=by
 obtain⟨i0,hi0,hz0,hz1,hz2⟩:=info_parts infoReign
 go_enter Tryz.func102,Tryz.ntmps102
 go_wp2_with ((refine wpList_make_full _ rfl _ _ 46 rfl w.heap.size 233 i0 _ 3 Tryz.underlying46 hi0 hz0 hz1 _ _ _ _ l.length rfl rfl rfl rfl ?b2 ?b3 ?b4 ?_))
 case b2=>rw[hz2];omega
 case b3=>unfold maxLen;omega
 case b4=>exact Nat.le_refl _
 intro w1 hown hg
 have hup1:Up w w1:=(Up.refl w).grown hg (fun k h=>by cases h)
 generalize (madeCells _ _).toList=xs0 at hown
 clear hg;go_wp2;go_loopw [4] (fun i wr=>∃k:Nat,∃xs,k≤l.length∧i=.int .i64 k∧wr.ownsRow w.heap.size 233 3 (.slice (some ⟨w.heap.size,0,none⟩) l.length l.length) l.length xs∧xs.take (k*3)=(l.take k).flatMap Nm.cells∧Up w wr) (fun i _=>l.length-(intOf i).toNat)
 case atStart=>exact⟨0,_,Nat.zero_le _,rfl,hown,by simp,hup1⟩
 case round =>
  obtain⟨k,xs,hk,rfl,hown,hxs,hup⟩:=hrel
  have HX:=qh hxs
  clear hxs;by_cases hlt:k<l.length
  ·obtain⟨b,off,d,rfl,hlo,hb,hd,q0,q1,q2⟩:=(hr.up hup hhi).nm hlt
   have HD:=qh hd
   clear hd;go_wp2_with (go_at_call 149;refine(toReign_any d _).mono ?_;rintro e w' ⟨rfl,hup'⟩;have hown':=own_up hown hup';clear hown;obtain⟨u0,r0⟩:=own_cell hown' (p:=k*3) (by omega);obtain⟨u1,r1⟩:=own_cell hown' (p:=k*3+1) (by omega);obtain⟨u2,r2⟩:=own_cell hown' (p:=k*3+2) (by omega);have z0:=hown'.frozenAt (k*3);have z1:=hown'.frozenAt (k*3+1);have z2:=hown'.frozenAt (k*3+2))
   go_roundw
   case rel=>exact⟨k+1,_,by omega,by go_num,(((hown'.stored _ _).1.stored _ _).1.stored _ _).1,setReign hown'.1 HD.out HX.out,((((hup.trans hup').setCell (by simp) _).setCell (by simp) _).setCell (by simp) _)⟩
   case measure=>simp[intOf];omega
  ·go_wp2
   go_ret;have hk2:k=l.length:=by omega
   subst hk2;have hx:=HX.out
   rw[List.take_of_length_le (by rw[hown.1];omega),List.take_of_length_le (Nat.le_refl _)]at hx
   subst hx;exact⟨_,rfl,hown,hup⟩
theorem eqReign_same(d:Nm)(w:World) :
 Calls Tryz.prog 172 #[d.val,d.val] w fun e w'=>e=.returned (.bool true)∧Up w w':=by
 have hss:∀s:ByteArray,(s.toList==s.toList)=true:=fun s=>by simp
 have hii:∀i:Int,(i != i)=false:=fun s=>by simp
 go_enter Tryz.func172,Tryz.ntmps172
 go_wp2
 all_goals first|(exfalso;simp_all;done)|(go_ret;exact⟨rfl,((Up.refl _).allocs _).allocs _⟩)
theorem eqReignS_same(A B:Option Addr)(l:List Nm)(c c' lo hi lo' hi':Nat)(w:World)(hr:RdNm w lo hi A l)(hhi:hi≤w.heap.size)(hr':RdNm w lo' hi' B l)(hhi':hi'≤w.heap.size)(hn:l.length≤2000000) :
 Calls Tryz.prog 124 #[.slice A l.length c,.slice B l.length c'] w fun e w'=>e=.returned (.bool true)∧Up w w':=by
 go_enter Tryz.func124,Tryz.ntmps124
 go_wp2;go_loopw [5] (fun i wr=>∃k:Nat,k≤l.length∧i=.int .i64 k∧Up w wr) (fun i _=>l.length-(intOf i).toNat)
 case atStart=>exact⟨0,Nat.zero_le _,rfl,Up.refl _⟩
 case round =>
  obtain⟨k,hk,rfl,hup⟩:=hrel
  by_cases hlt:k<l.length
  ·obtain⟨b1,o1,d1,rfl,-,-,hd1,p0,p1,p2⟩:=(hr.up hup hhi).nm hlt
   obtain⟨b2,o2,d2,rfl,-,-,hd2,q0,q1,q2⟩:=(hr'.up hup hhi').nm hlt
   obtain rfl:d1=d2:=by rw[hd1]at hd2;exact Option.some.inj hd2
   clear hd1 hd2;have P0:=cell_regrown p0
   have Q0:=cell_regrown q0
   have P1:=cell_regrown p1
   have Q1:=cell_regrown q1
   have P2:=cell_regrown p2
   have Q2:=cell_regrown q2
   go_wp2_with fail
   refine wp_region_quiet_below (by kernel_rfl) (by kernel_rfl) ?_
   repeat (quiet_step ((go_at_call 172;exact Calls.regrown_of (eqReign_same d1 _))))
   refine wpQuiet_nil ?_
   intro w2 hw2
   obtain⟨⟨dq,osq⟩,hw2⟩:=hw2
   have hup2:Up wr w2:=by rw[hw2];exact below_regrown _ _ _
   clear hw2 P0 Q0 P1 Q1 P2 Q2;go_wp2;go_roundw
   case rel=>exact⟨k+1,by omega,by go_num,hup.trans hup2⟩
   case measure=>simp[intOf];omega
  ·go_wp2
   go_ret;exact⟨rfl,hup⟩
theorem szPerson_any(d:Nm)(hd:d.ok)(left:Int)(w:World)(h0:0≤left)(hl:left≤2000000) :
 Calls Tryz.prog 137 #[d.val,.int .i64 left] w fun e w'=>∃z,e=.returned (.int .i64 z)∧z≤left∧Up w w':=by
 have h1:d.nm.size≤maxLen:=hd
 unfold maxLen at h1
 by_cases c1:left<(d.nm.size:Nat)
 ·go_enter Tryz.func137,Tryz.ntmps137
  go_wp2;go_ret;exact⟨_,rfl,by omega,Up.alloc _ _⟩
 ·go_enter Tryz.func137,Tryz.ntmps137
  go_wp2;go_ret;exact⟨_,rfl,by omega,Up.alloc _ _⟩
theorem szPersonS_any(A:Option Addr)(l:List Nm)(c lo hi:Nat)(left:Int)(w:World)(hr:RdNm w lo hi A l)(hhi:hi≤w.heap.size)(hok:∀d∈l,Nm.ok d)(h0:0≤left)(hl:left≤2000000)(hn:l.length≤maxLen) :
 Calls Tryz.prog 87 #[.slice A l.length c,.int .i64 left] w fun e w'=>∃z:Int,e=.returned (.int .i64 z)∧z≤left∧(z<0∨z+(l.length:Int)≤left)∧Up w w':=by
 unfold maxLen at hn
 by_cases c1:left<l.length
 ·go_enter Tryz.func87,Tryz.ntmps87
  go_wp2;go_ret;exact⟨-1,rfl,by omega,.inl (by omega),Up.refl _⟩
 ·go_enter Tryz.func87,Tryz.ntmps87
  have hb0:decide (left-(l.length:Int)<0)=false:=by simp;omega
  go_wp2;go_loopw [4,1,5] (fun r lf i wr=>∃k:Nat,∃z:Int,k≤l.length∧i=.int .i64 k∧lf=.int .i64 z∧0≤z∧z+(l.length:Int)≤left∧Up w wr) (fun _ _ i _=>l.length-(intOf i).toNat)
  case atStart=>exact⟨0,_,Nat.zero_le _,rfl,rfl,by omega,by omega,Up.refl _⟩
  case round =>
   obtain⟨k,z,hk,rfl,rfl,hz0,hz1,hup⟩:=hrel
   by_cases hlt:k<l.length
   ·obtain⟨b,off,d,rfl,hlo,hb,hd,q0,q1,q2⟩:=(hr.up hup hhi).nm hlt
    have HD:=qh hd
    clear hd;go_wp2_with fail
    refine(szPerson_any d (hok d (List.mem_of_getElem? HD.out)) _ _ (by omega) (by omega)).mono ?_
    rintro e w' ⟨z',rfl,hz',hup'⟩
    by_cases c2:z' < 0
    ·have hdec:decide (z' < 0)=true:=by simpa using c2
     go_wp2;go_ret;exact⟨-1,rfl,by omega,.inl (by omega),hup.trans hup'⟩
    ·have hdec:decide (z' < 0)=false:=by simpa using c2
     go_wp2;go_roundw
     case rel=>exact⟨k+1,_,by omega,by go_num,rfl,by omega,by omega,hup.trans hup'⟩
     case measure=>simp[intOf];omega
   ·go_wp2
    go_ret;exact⟨z,rfl,by omega,.inr (by omega),hup⟩
theorem infoPerson:(Tryz.prog.info? 229).map (fun i=>(i.zero,i.size,i.bytes))=some (some (.agg #[.string ByteArray.empty,.int .i64 0,.int .i64 0]),3,32):=by kernel_rfl
theorem toPerson_any(d:Nm)(w:World) :
 Calls Tryz.prog 150 #[d.val] w fun e w'=>e=.returned d.val∧Up w w':=by
 go_enter Tryz.func150,Tryz.ntmps150
 go_wp2;exact bodyPost_ret (v:=d.val) (by simp[results,Tryz.results150,go_sem]) rfl ⟨rfl,by repeat (first|exact Up.alloc _ _|refine Up.allocs ?_ _|refine Up.setCell ?_ (by simp;try omega) _)⟩
theorem setPerson{xs:List Value}{l:List Nm}{k:Nat}{d:Nm}(hx:xs.length=l.length*3)(hd:l[k]?=some d)(ht:xs.take (k*3)=(l.take k).flatMap Nm.cells) :
 ((((xs.set (k*3) (.string d.nm)).set (k*3+1) (.int .i64 d.fr)).set (k*3+2) (.int .i64 d.to_))).take ((k+1)*3)=(l.take (k+1)).flatMap Nm.cells:=by
 have hk:k<l.length:=(List.getElem?_eq_some_iff.1 hd).1
 rw[take_flat_succ _ hd,show(k+1)*3=k*3+2+1 by omega,take_set_succ (by simp;omega),take_set_succ (by simp;omega),take_set_succ (by omega),ht]
 simp
theorem toPersonS_any(A:Option Addr)(l:List Nm)(c lo hi:Nat)(w:World)(hr:RdNm w lo hi A l)(hhi:hi≤w.heap.size)(hn:l.length≤2000000) :
 Calls Tryz.prog 103 #[.slice A l.length c] w fun e w'=>∃v,e=.returned v∧w'.ownsRow w.heap.size 229 3 v l.length (l.flatMap Nm.cells)∧Up w w':=by
 obtain⟨i0,hi0,hz0,hz1,hz2⟩:=info_parts infoPerson
 go_enter Tryz.func103,Tryz.ntmps103
 go_wp2_with ((refine wpList_make_full _ rfl _ _ 49 rfl w.heap.size 229 i0 _ 3 Tryz.underlying49 hi0 hz0 hz1 _ _ _ _ l.length rfl rfl rfl rfl ?b2 ?b3 ?b4 ?_))
 case b2=>rw[hz2];omega
 case b3=>unfold maxLen;omega
 case b4=>exact Nat.le_refl _
 intro w1 hown hg
 have hup1:Up w w1:=(Up.refl w).grown hg (fun k h=>by cases h)
 generalize (madeCells _ _).toList=xs0 at hown
 clear hg;go_wp2;go_loopw [4] (fun i wr=>∃k:Nat,∃xs,k≤l.length∧i=.int .i64 k∧wr.ownsRow w.heap.size 229 3 (.slice (some ⟨w.heap.size,0,none⟩) l.length l.length) l.length xs∧xs.take (k*3)=(l.take k).flatMap Nm.cells∧Up w wr) (fun i _=>l.length-(intOf i).toNat)
 case atStart=>exact⟨0,_,Nat.zero_le _,rfl,hown,by simp,hup1⟩
 case round =>
  obtain⟨k,xs,hk,rfl,hown,hxs,hup⟩:=hrel
  have HX:=qh hxs
  clear hxs;by_cases hlt:k<l.length
  ·obtain⟨b,off,d,rfl,hlo,hb,hd,q0,q1,q2⟩:=(hr.up hup hhi).nm hlt
   have HD:=qh hd
   clear hd;go_wp2_with (go_at_call 150;refine(toPerson_any d _).mono ?_;rintro e w' ⟨rfl,hup'⟩;have hown':=own_up hown hup';clear hown;obtain⟨u0,r0⟩:=own_cell hown' (p:=k*3) (by omega);obtain⟨u1,r1⟩:=own_cell hown' (p:=k*3+1) (by omega);obtain⟨u2,r2⟩:=own_cell hown' (p:=k*3+2) (by omega);have z0:=hown'.frozenAt (k*3);have z1:=hown'.frozenAt (k*3+1);have z2:=hown'.frozenAt (k*3+2))
   go_roundw
   case rel=>exact⟨k+1,_,by omega,by go_num,(((hown'.stored _ _).1.stored _ _).1.stored _ _).1,setPerson hown'.1 HD.out HX.out,((((hup.trans hup').setCell (by simp) _).setCell (by simp) _).setCell (by simp) _)⟩
   case measure=>simp[intOf];omega
  ·go_wp2
   go_ret;have hk2:k=l.length:=by omega
   subst hk2;have hx:=HX.out
   rw[List.take_of_length_le (by rw[hown.1];omega),List.take_of_length_le (Nat.le_refl _)]at hx
   subst hx;exact⟨_,rfl,hown,hup⟩
theorem eqPerson_same(d:Nm)(w:World) :
 Calls Tryz.prog 173 #[d.val,d.val] w fun e w'=>e=.returned (.bool true)∧Up w w':=by
 have hss:∀s:ByteArray,(s.toList==s.toList)=true:=fun s=>by simp
 have hii:∀i:Int,(i != i)=false:=fun s=>by simp
 go_enter Tryz.func173,Tryz.ntmps173
 go_wp2
 all_goals first|(exfalso;simp_all;done)|(go_ret;exact⟨rfl,((Up.refl _).allocs _).allocs _⟩)
theorem eqPersonS_same(A B:Option Addr)(l:List Nm)(c c' lo hi lo' hi':Nat)(w:World)(hr:RdNm w lo hi A l)(hhi:hi≤w.heap.size)(hr':RdNm w lo' hi' B l)(hhi':hi'≤w.heap.size)(hn:l.length≤2000000) :
 Calls Tryz.prog 125 #[.slice A l.length c,.slice B l.length c'] w fun e w'=>e=.returned (.bool true)∧Up w w':=by
 go_enter Tryz.func125,Tryz.ntmps125
 go_wp2;go_loopw [5] (fun i wr=>∃k:Nat,k≤l.length∧i=.int .i64 k∧Up w wr) (fun i _=>l.length-(intOf i).toNat)
 case atStart=>exact⟨0,Nat.zero_le _,rfl,Up.refl _⟩
 case round =>
  obtain⟨k,hk,rfl,hup⟩:=hrel
  by_cases hlt:k<l.length
  ·obtain⟨b1,o1,d1,rfl,-,-,hd1,p0,p1,p2⟩:=(hr.up hup hhi).nm hlt
   obtain⟨b2,o2,d2,rfl,-,-,hd2,q0,q1,q2⟩:=(hr'.up hup hhi').nm hlt
   obtain rfl:d1=d2:=by rw[hd1]at hd2;exact Option.some.inj hd2
   clear hd1 hd2;have P0:=cell_regrown p0
   have Q0:=cell_regrown q0
   have P1:=cell_regrown p1
   have Q1:=cell_regrown q1
   have P2:=cell_regrown p2
   have Q2:=cell_regrown q2
   go_wp2_with fail
   refine wp_region_quiet_below (by kernel_rfl) (by kernel_rfl) ?_
   repeat (quiet_step ((go_at_call 173;exact Calls.regrown_of (eqPerson_same d1 _))))
   refine wpQuiet_nil ?_
   intro w2 hw2
   obtain⟨⟨dq,osq⟩,hw2⟩:=hw2
   have hup2:Up wr w2:=by rw[hw2];exact below_regrown _ _ _
   clear hw2 P0 Q0 P1 Q1 P2 Q2;go_wp2;go_roundw
   case rel=>exact⟨k+1,by omega,by go_num,hup.trans hup2⟩
   case measure=>simp[intOf];omega
  ·go_wp2
   go_ret;exact⟨rfl,hup⟩
theorem szMark_any(d:Nm)(hd:d.ok)(left:Int)(w:World)(h0:0≤left)(hl:left≤2000000) :
 Calls Tryz.prog 90 #[d.val,.int .i64 left] w fun e w'=>∃z,e=.returned (.int .i64 z)∧z≤left∧Up w w':=by
 have h1:d.nm.size≤maxLen:=hd
 unfold maxLen at h1
 by_cases c1:left<(d.nm.size:Nat)
 ·go_enter Tryz.func90,Tryz.ntmps90
  go_wp2;go_ret;exact⟨_,rfl,by omega,Up.alloc _ _⟩
 ·go_enter Tryz.func90,Tryz.ntmps90
  go_wp2;go_ret;exact⟨_,rfl,by omega,Up.alloc _ _⟩
theorem szMarkS_any(A:Option Addr)(l:List Nm)(c lo hi:Nat)(left:Int)(w:World)(hr:RdNm w lo hi A l)(hhi:hi≤w.heap.size)(hok:∀d∈l,Nm.ok d)(h0:0≤left)(hl:left≤2000000)(hn:l.length≤maxLen) :
 Calls Tryz.prog 44 #[.slice A l.length c,.int .i64 left] w fun e w'=>∃z:Int,e=.returned (.int .i64 z)∧z≤left∧(z<0∨z+(l.length:Int)≤left)∧Up w w':=by
 unfold maxLen at hn
 by_cases c1:left<l.length
 ·go_enter Tryz.func44,Tryz.ntmps44
  go_wp2;go_ret;exact⟨-1,rfl,by omega,.inl (by omega),Up.refl _⟩
 ·go_enter Tryz.func44,Tryz.ntmps44
  have hb0:decide (left-(l.length:Int)<0)=false:=by simp;omega
  go_wp2;go_loopw [4,1,5] (fun r lf i wr=>∃k:Nat,∃z:Int,k≤l.length∧i=.int .i64 k∧lf=.int .i64 z∧0≤z∧z+(l.length:Int)≤left∧Up w wr) (fun _ _ i _=>l.length-(intOf i).toNat)
  case atStart=>exact⟨0,_,Nat.zero_le _,rfl,rfl,by omega,by omega,Up.refl _⟩
  case round =>
   obtain⟨k,z,hk,rfl,rfl,hz0,hz1,hup⟩:=hrel
   by_cases hlt:k<l.length
   ·obtain⟨b,off,d,rfl,hlo,hb,hd,q0,q1,q2⟩:=(hr.up hup hhi).nm hlt
    have HD:=qh hd
    clear hd;go_wp2_with fail
    refine(szMark_any d (hok d (List.mem_of_getElem? HD.out)) _ _ (by omega) (by omega)).mono ?_
    rintro e w' ⟨z',rfl,hz',hup'⟩
    by_cases c2:z' < 0
    ·have hdec:decide (z' < 0)=true:=by simpa using c2
     go_wp2;go_ret;exact⟨-1,rfl,by omega,.inl (by omega),hup.trans hup'⟩
    ·have hdec:decide (z' < 0)=false:=by simpa using c2
     go_wp2;go_roundw
     case rel=>exact⟨k+1,_,by omega,by go_num,rfl,by omega,by omega,hup.trans hup'⟩
     case measure=>simp[intOf];omega
   ·go_wp2
    go_ret;exact⟨z,rfl,by omega,.inr (by omega),hup⟩
theorem infoMark:(Tryz.prog.info? 174).map (fun i=>(i.zero,i.size,i.bytes))=some (some (.agg #[.string ByteArray.empty,.int .i64 0,.int .i64 0]),3,32):=by kernel_rfl
theorem toMark_any(d:Nm)(w:World) :
 Calls Tryz.prog 107 #[d.val] w fun e w'=>e=.returned d.val∧Up w w':=by
 go_enter Tryz.func107,Tryz.ntmps107
 go_wp2;exact bodyPost_ret (v:=d.val) (by simp[results,Tryz.results107,go_sem]) rfl ⟨rfl,by repeat (first|exact Up.alloc _ _|refine Up.allocs ?_ _|refine Up.setCell ?_ (by simp;try omega) _)⟩
theorem setMark{xs:List Value}{l:List Nm}{k:Nat}{d:Nm}(hx:xs.length=l.length*3)(hd:l[k]?=some d)(ht:xs.take (k*3)=(l.take k).flatMap Nm.cells) :
 ((((xs.set (k*3) (.string d.nm)).set (k*3+1) (.int .i64 d.fr)).set (k*3+2) (.int .i64 d.to_))).take ((k+1)*3)=(l.take (k+1)).flatMap Nm.cells:=by
 have hk:k<l.length:=(List.getElem?_eq_some_iff.1 hd).1
 rw[take_flat_succ _ hd,show(k+1)*3=k*3+2+1 by omega,take_set_succ (by simp;omega),take_set_succ (by simp;omega),take_set_succ (by omega),ht]
 simp
theorem toMarkS_any(A:Option Addr)(l:List Nm)(c lo hi:Nat)(w:World)(hr:RdNm w lo hi A l)(hhi:hi≤w.heap.size)(hn:l.length≤2000000) :
 Calls Tryz.prog 59 #[.slice A l.length c] w fun e w'=>∃v,e=.returned v∧w'.ownsRow w.heap.size 174 3 v l.length (l.flatMap Nm.cells)∧Up w w':=by
 obtain⟨i0,hi0,hz0,hz1,hz2⟩:=info_parts infoMark
 go_enter Tryz.func59,Tryz.ntmps59
 go_wp2_with ((refine wpList_make_full _ rfl _ _ 57 rfl w.heap.size 174 i0 _ 3 Tryz.underlying57 hi0 hz0 hz1 _ _ _ _ l.length rfl rfl rfl rfl ?b2 ?b3 ?b4 ?_))
 case b2=>rw[hz2];omega
 case b3=>unfold maxLen;omega
 case b4=>exact Nat.le_refl _
 intro w1 hown hg
 have hup1:Up w w1:=(Up.refl w).grown hg (fun k h=>by cases h)
 generalize (madeCells _ _).toList=xs0 at hown
 clear hg;go_wp2;go_loopw [4] (fun i wr=>∃k:Nat,∃xs,k≤l.length∧i=.int .i64 k∧wr.ownsRow w.heap.size 174 3 (.slice (some ⟨w.heap.size,0,none⟩) l.length l.length) l.length xs∧xs.take (k*3)=(l.take k).flatMap Nm.cells∧Up w wr) (fun i _=>l.length-(intOf i).toNat)
 case atStart=>exact⟨0,_,Nat.zero_le _,rfl,hown,by simp,hup1⟩
 case round =>
  obtain⟨k,xs,hk,rfl,hown,hxs,hup⟩:=hrel
  have HX:=qh hxs
  clear hxs;by_cases hlt:k<l.length
  ·obtain⟨b,off,d,rfl,hlo,hb,hd,q0,q1,q2⟩:=(hr.up hup hhi).nm hlt
   have HD:=qh hd
   clear hd;go_wp2_with (go_at_call 107;refine(toMark_any d _).mono ?_;rintro e w' ⟨rfl,hup'⟩;have hown':=own_up hown hup';clear hown;obtain⟨u0,r0⟩:=own_cell hown' (p:=k*3) (by omega);obtain⟨u1,r1⟩:=own_cell hown' (p:=k*3+1) (by omega);obtain⟨u2,r2⟩:=own_cell hown' (p:=k*3+2) (by omega);have z0:=hown'.frozenAt (k*3);have z1:=hown'.frozenAt (k*3+1);have z2:=hown'.frozenAt (k*3+2))
   go_roundw
   case rel=>exact⟨k+1,_,by omega,by go_num,(((hown'.stored _ _).1.stored _ _).1.stored _ _).1,setMark hown'.1 HD.out HX.out,((((hup.trans hup').setCell (by simp) _).setCell (by simp) _).setCell (by simp) _)⟩
   case measure=>simp[intOf];omega
  ·go_wp2
   go_ret;have hk2:k=l.length:=by omega
   subst hk2;have hx:=HX.out
   rw[List.take_of_length_le (by rw[hown.1];omega),List.take_of_length_le (Nat.le_refl _)]at hx
   subst hx;exact⟨_,rfl,hown,hup⟩
theorem eqMark_same(d:Nm)(w:World) :
 Calls Tryz.prog 129 #[d.val,d.val] w fun e w'=>e=.returned (.bool true)∧Up w w':=by
 have hss:∀s:ByteArray,(s.toList==s.toList)=true:=fun s=>by simp
 have hii:∀i:Int,(i != i)=false:=fun s=>by simp
 go_enter Tryz.func129,Tryz.ntmps129
 go_wp2
 all_goals first|(exfalso;simp_all;done)|(go_ret;exact⟨rfl,((Up.refl _).allocs _).allocs _⟩)
theorem eqMarkS_same(A B:Option Addr)(l:List Nm)(c c' lo hi lo' hi':Nat)(w:World)(hr:RdNm w lo hi A l)(hhi:hi≤w.heap.size)(hr':RdNm w lo' hi' B l)(hhi':hi'≤w.heap.size)(hn:l.length≤2000000) :
 Calls Tryz.prog 73 #[.slice A l.length c,.slice B l.length c'] w fun e w'=>e=.returned (.bool true)∧Up w w':=by
 go_enter Tryz.func73,Tryz.ntmps73
 go_wp2;go_loopw [5] (fun i wr=>∃k:Nat,k≤l.length∧i=.int .i64 k∧Up w wr) (fun i _=>l.length-(intOf i).toNat)
 case atStart=>exact⟨0,Nat.zero_le _,rfl,Up.refl _⟩
 case round =>
  obtain⟨k,hk,rfl,hup⟩:=hrel
  by_cases hlt:k<l.length
  ·obtain⟨b1,o1,d1,rfl,-,-,hd1,p0,p1,p2⟩:=(hr.up hup hhi).nm hlt
   obtain⟨b2,o2,d2,rfl,-,-,hd2,q0,q1,q2⟩:=(hr'.up hup hhi').nm hlt
   obtain rfl:d1=d2:=by rw[hd1]at hd2;exact Option.some.inj hd2
   clear hd1 hd2;have P0:=cell_regrown p0
   have Q0:=cell_regrown q0
   have P1:=cell_regrown p1
   have Q1:=cell_regrown q1
   have P2:=cell_regrown p2
   have Q2:=cell_regrown q2
   go_wp2_with fail
   refine wp_region_quiet_below (by kernel_rfl) (by kernel_rfl) ?_
   repeat (quiet_step ((go_at_call 129;exact Calls.regrown_of (eqMark_same d1 _))))
   refine wpQuiet_nil ?_
   intro w2 hw2
   obtain⟨⟨dq,osq⟩,hw2⟩:=hw2
   have hup2:Up wr w2:=by rw[hw2];exact below_regrown _ _ _
   clear hw2 P0 Q0 P1 Q1 P2 Q2;go_wp2;go_roundw
   case rel=>exact⟨k+1,by omega,by go_num,hup.trans hup2⟩
   case measure=>simp[intOf];omega
  ·go_wp2
   go_ret;exact⟨rfl,hup⟩
theorem szTerm_any(d:Tm)(hd:d.ok)(left:Int)(w:World)(h0:0≤left)(hl:left≤2000000) :
 Calls Tryz.prog 138 #[d.val,.int .i64 left] w fun e w'=>∃z,e=.returned (.int .i64 z)∧z≤left∧Up w w':=by
 obtain⟨h1,h2⟩:=hd
 unfold maxLen at h1 h2
 by_cases c1:left<(d.of_.size:Nat)
 ·go_enter Tryz.func138,Tryz.ntmps138
  go_wp2;go_ret;exact⟨_,rfl,by omega,Up.alloc _ _⟩
 ·by_cases c2:left<(d.of_.size+d.pe.size:Nat)
  ·go_enter Tryz.func138,Tryz.ntmps138
   go_wp2;go_ret;exact⟨_,rfl,by omega,Up.alloc _ _⟩
  ·go_enter Tryz.func138,Tryz.ntmps138
   go_wp2;go_ret;exact⟨_,rfl,by omega,Up.alloc _ _⟩
theorem szTermS_any(A:Option Addr)(l:List Tm)(c lo hi:Nat)(left:Int)(w:World)(hr:RdTm w lo hi A l)(hhi:hi≤w.heap.size)(hok:∀d∈l,Tm.ok d)(h0:0≤left)(hl:left≤2000000)(hn:l.length≤maxLen) :
 Calls Tryz.prog 88 #[.slice A l.length c,.int .i64 left] w fun e w'=>∃z:Int,e=.returned (.int .i64 z)∧z≤left∧(z<0∨z+(l.length:Int)≤left)∧Up w w':=by
 unfold maxLen at hn
 by_cases c1:left<l.length
 ·go_enter Tryz.func88,Tryz.ntmps88
  go_wp2;go_ret;exact⟨-1,rfl,by omega,.inl (by omega),Up.refl _⟩
 ·go_enter Tryz.func88,Tryz.ntmps88
  have hb0:decide (left-(l.length:Int)<0)=false:=by simp;omega
  go_wp2;go_loopw [4,1,5] (fun r lf i wr=>∃k:Nat,∃z:Int,k≤l.length∧i=.int .i64 k∧lf=.int .i64 z∧0≤z∧z+(l.length:Int)≤left∧Up w wr) (fun _ _ i _=>l.length-(intOf i).toNat)
  case atStart=>exact⟨0,_,Nat.zero_le _,rfl,rfl,by omega,by omega,Up.refl _⟩
  case round =>
   obtain⟨k,z,hk,rfl,rfl,hz0,hz1,hup⟩:=hrel
   by_cases hlt:k<l.length
   ·obtain⟨b,off,d,rfl,hlo,hb,hd,q0,q1,q2,q3⟩:=(hr.up hup hhi).tm hlt
    have HD:=qh hd
    clear hd;go_wp2_with fail
    refine(szTerm_any d (hok d (List.mem_of_getElem? HD.out)) _ _ (by omega) (by omega)).mono ?_
    rintro e w' ⟨z',rfl,hz',hup'⟩
    by_cases c2:z' < 0
    ·have hdec:decide (z' < 0)=true:=by simpa using c2
     go_wp2;go_ret;exact⟨-1,rfl,by omega,.inl (by omega),hup.trans hup'⟩
    ·have hdec:decide (z' < 0)=false:=by simpa using c2
     go_wp2;go_roundw
     case rel=>exact⟨k+1,_,by omega,by go_num,rfl,by omega,by omega,hup.trans hup'⟩
     case measure=>simp[intOf];omega
   ·go_wp2
    go_ret;exact⟨z,rfl,by omega,.inr (by omega),hup⟩
theorem infoTerm:(Tryz.prog.info? 236).map (fun i=>(i.zero,i.size,i.bytes))=some (some (.agg #[.string ByteArray.empty,.string ByteArray.empty,.int .i64 0,.int .i64 0]),4,48):=by kernel_rfl
theorem toTerm_any(d:Tm)(w:World) :
 Calls Tryz.prog 151 #[d.val] w fun e w'=>e=.returned d.val∧Up w w':=by
 go_enter Tryz.func151,Tryz.ntmps151
 go_wp2;exact bodyPost_ret (v:=d.val) (by simp[results,Tryz.results151,go_sem]) rfl ⟨rfl,by repeat (first|exact Up.alloc _ _|refine Up.allocs ?_ _|refine Up.setCell ?_ (by simp;try omega) _)⟩
theorem setTerm{xs:List Value}{l:List Tm}{k:Nat}{d:Tm}(hx:xs.length=l.length*4)(hd:l[k]?=some d)(ht:xs.take (k*4)=(l.take k).flatMap Tm.cells) :
 (((((xs.set (k*4) (.string d.of_)).set (k*4+1) (.string d.pe)).set (k*4+2) (.int .i64 d.fr)).set (k*4+3) (.int .i64 d.to_))).take ((k+1)*4)=(l.take (k+1)).flatMap Tm.cells:=by
 have hk:k<l.length:=(List.getElem?_eq_some_iff.1 hd).1
 rw[take_flat_succ _ hd,show(k+1)*4=k*4+3+1 by omega,take_set_succ (by simp;omega),take_set_succ (by simp;omega),take_set_succ (by simp;omega),take_set_succ (by omega),ht]
 simp
theorem toTermS_any(A:Option Addr)(l:List Tm)(c lo hi:Nat)(w:World)(hr:RdTm w lo hi A l)(hhi:hi≤w.heap.size)(hn:l.length≤2000000) :
 Calls Tryz.prog 104 #[.slice A l.length c] w fun e w'=>∃v,e=.returned v∧w'.ownsRow w.heap.size 236 4 v l.length (l.flatMap Tm.cells)∧Up w w':=by
 obtain⟨i0,hi0,hz0,hz1,hz2⟩:=info_parts infoTerm
 go_enter Tryz.func104,Tryz.ntmps104
 go_wp2_with ((refine wpList_make_full _ rfl _ _ 50 rfl w.heap.size 236 i0 _ 4 Tryz.underlying50 hi0 hz0 hz1 _ _ _ _ l.length rfl rfl rfl rfl ?b2 ?b3 ?b4 ?_))
 case b2=>rw[hz2];omega
 case b3=>unfold maxLen;omega
 case b4=>exact Nat.le_refl _
 intro w1 hown hg
 have hup1:Up w w1:=(Up.refl w).grown hg (fun k h=>by cases h)
 generalize (madeCells _ _).toList=xs0 at hown
 clear hg;go_wp2;go_loopw [4] (fun i wr=>∃k:Nat,∃xs,k≤l.length∧i=.int .i64 k∧wr.ownsRow w.heap.size 236 4 (.slice (some ⟨w.heap.size,0,none⟩) l.length l.length) l.length xs∧xs.take (k*4)=(l.take k).flatMap Tm.cells∧Up w wr) (fun i _=>l.length-(intOf i).toNat)
 case atStart=>exact⟨0,_,Nat.zero_le _,rfl,hown,by simp,hup1⟩
 case round =>
  obtain⟨k,xs,hk,rfl,hown,hxs,hup⟩:=hrel
  have HX:=qh hxs
  clear hxs;by_cases hlt:k<l.length
  ·obtain⟨b,off,d,rfl,hlo,hb,hd,q0,q1,q2,q3⟩:=(hr.up hup hhi).tm hlt
   have HD:=qh hd
   clear hd;go_wp2_with (go_at_call 151;refine(toTerm_any d _).mono ?_;rintro e w' ⟨rfl,hup'⟩;have hown':=own_up hown hup';clear hown;obtain⟨u0,r0⟩:=own_cell hown' (p:=k*4) (by omega);obtain⟨u1,r1⟩:=own_cell hown' (p:=k*4+1) (by omega);obtain⟨u2,r2⟩:=own_cell hown' (p:=k*4+2) (by omega);obtain⟨u3,r3⟩:=own_cell hown' (p:=k*4+3) (by omega);have z0:=hown'.frozenAt (k*4);have z1:=hown'.frozenAt (k*4+1);have z2:=hown'.frozenAt (k*4+2);have z3:=hown'.frozenAt (k*4+3))
   go_roundw
   case rel=>exact⟨k+1,_,by omega,by go_num,((((hown'.stored _ _).1.stored _ _).1.stored _ _).1.stored _ _).1,setTerm hown'.1 HD.out HX.out,(((((hup.trans hup').setCell (by simp) _).setCell (by simp) _).setCell (by simp) _).setCell (by simp) _)⟩
   case measure=>simp[intOf];omega
  ·go_wp2
   go_ret;have hk2:k=l.length:=by omega
   subst hk2;have hx:=HX.out
   rw[List.take_of_length_le (by rw[hown.1];omega),List.take_of_length_le (Nat.le_refl _)]at hx
   subst hx;exact⟨_,rfl,hown,hup⟩
theorem eqTerm_same(d:Tm)(w:World) :
 Calls Tryz.prog 174 #[d.val,d.val] w fun e w'=>e=.returned (.bool true)∧Up w w':=by
 have hss:∀s:ByteArray,(s.toList==s.toList)=true:=fun s=>by simp
 have hii:∀i:Int,(i != i)=false:=fun s=>by simp
 go_enter Tryz.func174,Tryz.ntmps174
 go_wp2
 all_goals first|(exfalso;simp_all;done)|(go_ret;exact⟨rfl,((Up.refl _).allocs _).allocs _⟩)
theorem eqTermS_same(A B:Option Addr)(l:List Tm)(c c' lo hi lo' hi':Nat)(w:World)(hr:RdTm w lo hi A l)(hhi:hi≤w.heap.size)(hr':RdTm w lo' hi' B l)(hhi':hi'≤w.heap.size)(hn:l.length≤2000000) :
 Calls Tryz.prog 126 #[.slice A l.length c,.slice B l.length c'] w fun e w'=>e=.returned (.bool true)∧Up w w':=by
 go_enter Tryz.func126,Tryz.ntmps126
 go_wp2;go_loopw [5] (fun i wr=>∃k:Nat,k≤l.length∧i=.int .i64 k∧Up w wr) (fun i _=>l.length-(intOf i).toNat)
 case atStart=>exact⟨0,Nat.zero_le _,rfl,Up.refl _⟩
 case round =>
  obtain⟨k,hk,rfl,hup⟩:=hrel
  by_cases hlt:k<l.length
  ·obtain⟨b1,o1,d1,rfl,-,-,hd1,p0,p1,p2,p3⟩:=(hr.up hup hhi).tm hlt
   obtain⟨b2,o2,d2,rfl,-,-,hd2,q0,q1,q2,q3⟩:=(hr'.up hup hhi').tm hlt
   obtain rfl:d1=d2:=by rw[hd1]at hd2;exact Option.some.inj hd2
   clear hd1 hd2;have P0:=cell_regrown p0
   have Q0:=cell_regrown q0
   have P1:=cell_regrown p1
   have Q1:=cell_regrown q1
   have P2:=cell_regrown p2
   have Q2:=cell_regrown q2
   have P3:=cell_regrown p3
   have Q3:=cell_regrown q3
   go_wp2_with fail
   refine wp_region_quiet_below (by kernel_rfl) (by kernel_rfl) ?_
   repeat (quiet_step ((go_at_call 174;exact Calls.regrown_of (eqTerm_same d1 _))))
   refine wpQuiet_nil ?_
   intro w2 hw2
   obtain⟨⟨dq,osq⟩,hw2⟩:=hw2
   have hup2:Up wr w2:=by rw[hw2];exact below_regrown _ _ _
   clear hw2 P0 Q0 P1 Q1 P2 Q2 P3 Q3;go_wp2;go_roundw
   case rel=>exact⟨k+1,by omega,by go_num,hup.trans hup2⟩
   case measure=>simp[intOf];omega
  ·go_wp2
   go_ret;exact⟨rfl,hup⟩
theorem szWayS_any(A:Option Addr)(l:List I3)(c:Nat)(left:Int)(w:World)(h0:0≤left)(hl:left≤2000000)(hn:l.length≤maxLen) :
 Calls Tryz.prog 89 #[.slice A l.length c,.int .i64 left] w fun e w'=>∃z:Int,e=.returned (.int .i64 z)∧z≤left∧(z<0∨z+(l.length:Int)≤left)∧Up w w':=by
 unfold maxLen at hn
 by_cases c1:left<l.length
 ·go_enter Tryz.func89,Tryz.ntmps89
  go_wp2;go_ret;exact⟨-1,rfl,by omega,.inl (by omega),Up.refl _⟩
 ·go_enter Tryz.func89,Tryz.ntmps89
  go_wp2;go_ret;exact⟨_,rfl,by omega,.inr (by omega),Up.refl _⟩
theorem infoWay:(Tryz.prog.info? 232).map (fun i=>(i.zero,i.size,i.bytes))=some (some (.agg #[.int .i64 0,.int .i64 0,.int .i64 0]),3,24):=by kernel_rfl
theorem toWay_any(d:I3)(w:World) :
 Calls Tryz.prog 152 #[d.val] w fun e w'=>e=.returned d.val∧Up w w':=by
 go_enter Tryz.func152,Tryz.ntmps152
 go_wp2;exact bodyPost_ret (v:=d.val) (by simp[results,Tryz.results152,go_sem]) rfl ⟨rfl,by repeat (first|exact Up.alloc _ _|refine Up.allocs ?_ _|refine Up.setCell ?_ (by simp;try omega) _)⟩
theorem setWay{xs:List Value}{l:List I3}{k:Nat}{d:I3}(hx:xs.length=l.length*3)(hd:l[k]?=some d)(ht:xs.take (k*3)=(l.take k).flatMap I3.cells) :
 ((((xs.set (k*3) (.int .i64 d.a)).set (k*3+1) (.int .i64 d.b)).set (k*3+2) (.int .i64 d.d))).take ((k+1)*3)=(l.take (k+1)).flatMap I3.cells:=by
 have hk:k<l.length:=(List.getElem?_eq_some_iff.1 hd).1
 rw[take_flat_succ _ hd,show(k+1)*3=k*3+2+1 by omega,take_set_succ (by simp;omega),take_set_succ (by simp;omega),take_set_succ (by omega),ht]
 simp
theorem toWayS_any(A:Option Addr)(l:List I3)(c lo hi:Nat)(w:World)(hr:RdI3 w lo hi A l)(hhi:hi≤w.heap.size)(hn:l.length≤2000000) :
 Calls Tryz.prog 105 #[.slice A l.length c] w fun e w'=>∃v,e=.returned v∧w'.ownsRow w.heap.size 232 3 v l.length (l.flatMap I3.cells)∧Up w w':=by
 obtain⟨i0,hi0,hz0,hz1,hz2⟩:=info_parts infoWay
 go_enter Tryz.func105,Tryz.ntmps105
 go_wp2_with ((refine wpList_make_full _ rfl _ _ 53 rfl w.heap.size 232 i0 _ 3 Tryz.underlying53 hi0 hz0 hz1 _ _ _ _ l.length rfl rfl rfl rfl ?b2 ?b3 ?b4 ?_))
 case b2=>rw[hz2];omega
 case b3=>unfold maxLen;omega
 case b4=>exact Nat.le_refl _
 intro w1 hown hg
 have hup1:Up w w1:=(Up.refl w).grown hg (fun k h=>by cases h)
 generalize (madeCells _ _).toList=xs0 at hown
 clear hg;go_wp2;go_loopw [4] (fun i wr=>∃k:Nat,∃xs,k≤l.length∧i=.int .i64 k∧wr.ownsRow w.heap.size 232 3 (.slice (some ⟨w.heap.size,0,none⟩) l.length l.length) l.length xs∧xs.take (k*3)=(l.take k).flatMap I3.cells∧Up w wr) (fun i _=>l.length-(intOf i).toNat)
 case atStart=>exact⟨0,_,Nat.zero_le _,rfl,hown,by simp,hup1⟩
 case round =>
  obtain⟨k,xs,hk,rfl,hown,hxs,hup⟩:=hrel
  have HX:=qh hxs
  clear hxs;by_cases hlt:k<l.length
  ·obtain⟨b,off,d,rfl,hlo,hb,hd,q0,q1,q2⟩:=(hr.up hup hhi).i3 hlt
   have HD:=qh hd
   clear hd;go_wp2_with (go_at_call 152;refine(toWay_any d _).mono ?_;rintro e w' ⟨rfl,hup'⟩;have hown':=own_up hown hup';clear hown;obtain⟨u0,r0⟩:=own_cell hown' (p:=k*3) (by omega);obtain⟨u1,r1⟩:=own_cell hown' (p:=k*3+1) (by omega);obtain⟨u2,r2⟩:=own_cell hown' (p:=k*3+2) (by omega);have z0:=hown'.frozenAt (k*3);have z1:=hown'.frozenAt (k*3+1);have z2:=hown'.frozenAt (k*3+2))
   go_roundw
   case rel=>exact⟨k+1,_,by omega,by go_num,(((hown'.stored _ _).1.stored _ _).1.stored _ _).1,setWay hown'.1 HD.out HX.out,((((hup.trans hup').setCell (by simp) _).setCell (by simp) _).setCell (by simp) _)⟩
   case measure=>simp[intOf];omega
  ·go_wp2
   go_ret;have hk2:k=l.length:=by omega
   subst hk2;have hx:=HX.out
   rw[List.take_of_length_le (by rw[hown.1];omega),List.take_of_length_le (Nat.le_refl _)]at hx
   subst hx;exact⟨_,rfl,hown,hup⟩
theorem eqWay_same(d:I3)(w:World) :
 Calls Tryz.prog 175 #[d.val,d.val] w fun e w'=>e=.returned (.bool true)∧Up w w':=by
 have hss:∀s:ByteArray,(s.toList==s.toList)=true:=fun s=>by simp
 have hii:∀i:Int,(i != i)=false:=fun s=>by simp
 go_enter Tryz.func175,Tryz.ntmps175
 go_wp2
 all_goals first|(exfalso;simp_all;done)|(go_ret;exact⟨rfl,((Up.refl _).allocs _).allocs _⟩)
theorem eqWayS_same(A B:Option Addr)(l:List I3)(c c' lo hi lo' hi':Nat)(w:World)(hr:RdI3 w lo hi A l)(hhi:hi≤w.heap.size)(hr':RdI3 w lo' hi' B l)(hhi':hi'≤w.heap.size)(hn:l.length≤2000000) :
 Calls Tryz.prog 127 #[.slice A l.length c,.slice B l.length c'] w fun e w'=>e=.returned (.bool true)∧Up w w':=by
 go_enter Tryz.func127,Tryz.ntmps127
 go_wp2;go_loopw [5] (fun i wr=>∃k:Nat,k≤l.length∧i=.int .i64 k∧Up w wr) (fun i _=>l.length-(intOf i).toNat)
 case atStart=>exact⟨0,Nat.zero_le _,rfl,Up.refl _⟩
 case round =>
  obtain⟨k,hk,rfl,hup⟩:=hrel
  by_cases hlt:k<l.length
  ·obtain⟨b1,o1,d1,rfl,-,-,hd1,p0,p1,p2⟩:=(hr.up hup hhi).i3 hlt
   obtain⟨b2,o2,d2,rfl,-,-,hd2,q0,q1,q2⟩:=(hr'.up hup hhi').i3 hlt
   obtain rfl:d1=d2:=by rw[hd1]at hd2;exact Option.some.inj hd2
   clear hd1 hd2;have P0:=cell_regrown p0
   have Q0:=cell_regrown q0
   have P1:=cell_regrown p1
   have Q1:=cell_regrown q1
   have P2:=cell_regrown p2
   have Q2:=cell_regrown q2
   go_wp2_with fail
   refine wp_region_quiet_below (by kernel_rfl) (by kernel_rfl) ?_
   repeat (quiet_step ((go_at_call 175;exact Calls.regrown_of (eqWay_same d1 _))))
   refine wpQuiet_nil ?_
   intro w2 hw2
   obtain⟨⟨dq,osq⟩,hw2⟩:=hw2
   have hup2:Up wr w2:=by rw[hw2];exact below_regrown _ _ _
   clear hw2 P0 Q0 P1 Q1 P2 Q2;go_wp2;go_roundw
   case rel=>exact⟨k+1,by omega,by go_num,hup.trans hup2⟩
   case measure=>simp[intOf];omega
  ·go_wp2
   go_ret;exact⟨rfl,hup⟩
theorem szStayS_any(A:Option Addr)(l:List I3)(c:Nat)(left:Int)(w:World)(h0:0≤left)(hl:left≤2000000)(hn:l.length≤maxLen) :
 Calls Tryz.prog 43 #[.slice A l.length c,.int .i64 left] w fun e w'=>∃z:Int,e=.returned (.int .i64 z)∧z≤left∧(z<0∨z+(l.length:Int)≤left)∧Up w w':=by
 unfold maxLen at hn
 by_cases c1:left<l.length
 ·go_enter Tryz.func43,Tryz.ntmps43
  go_wp2;go_ret;exact⟨-1,rfl,by omega,.inl (by omega),Up.refl _⟩
 ·go_enter Tryz.func43,Tryz.ntmps43
  go_wp2;go_ret;exact⟨_,rfl,by omega,.inr (by omega),Up.refl _⟩
theorem infoStay:(Tryz.prog.info? 172).map (fun i=>(i.zero,i.size,i.bytes))=some (some (.agg #[.int .i64 0,.int .i64 0,.int .i64 0]),3,24):=by kernel_rfl
theorem toStay_any(d:I3)(w:World) :
 Calls Tryz.prog 106 #[d.val] w fun e w'=>e=.returned d.val∧Up w w':=by
 go_enter Tryz.func106,Tryz.ntmps106
 go_wp2;exact bodyPost_ret (v:=d.val) (by simp[results,Tryz.results106,go_sem]) rfl ⟨rfl,by repeat (first|exact Up.alloc _ _|refine Up.allocs ?_ _|refine Up.setCell ?_ (by simp;try omega) _)⟩
theorem setStay{xs:List Value}{l:List I3}{k:Nat}{d:I3}(hx:xs.length=l.length*3)(hd:l[k]?=some d)(ht:xs.take (k*3)=(l.take k).flatMap I3.cells) :
 ((((xs.set (k*3) (.int .i64 d.a)).set (k*3+1) (.int .i64 d.b)).set (k*3+2) (.int .i64 d.d))).take ((k+1)*3)=(l.take (k+1)).flatMap I3.cells:=by
 have hk:k<l.length:=(List.getElem?_eq_some_iff.1 hd).1
 rw[take_flat_succ _ hd,show(k+1)*3=k*3+2+1 by omega,take_set_succ (by simp;omega),take_set_succ (by simp;omega),take_set_succ (by omega),ht]
 simp
theorem toStayS_any(A:Option Addr)(l:List I3)(c lo hi:Nat)(w:World)(hr:RdI3 w lo hi A l)(hhi:hi≤w.heap.size)(hn:l.length≤2000000) :
 Calls Tryz.prog 58 #[.slice A l.length c] w fun e w'=>∃v,e=.returned v∧w'.ownsRow w.heap.size 172 3 v l.length (l.flatMap I3.cells)∧Up w w':=by
 obtain⟨i0,hi0,hz0,hz1,hz2⟩:=info_parts infoStay
 go_enter Tryz.func58,Tryz.ntmps58
 go_wp2_with ((refine wpList_make_full _ rfl _ _ 56 rfl w.heap.size 172 i0 _ 3 Tryz.underlying56 hi0 hz0 hz1 _ _ _ _ l.length rfl rfl rfl rfl ?b2 ?b3 ?b4 ?_))
 case b2=>rw[hz2];omega
 case b3=>unfold maxLen;omega
 case b4=>exact Nat.le_refl _
 intro w1 hown hg
 have hup1:Up w w1:=(Up.refl w).grown hg (fun k h=>by cases h)
 generalize (madeCells _ _).toList=xs0 at hown
 clear hg;go_wp2;go_loopw [4] (fun i wr=>∃k:Nat,∃xs,k≤l.length∧i=.int .i64 k∧wr.ownsRow w.heap.size 172 3 (.slice (some ⟨w.heap.size,0,none⟩) l.length l.length) l.length xs∧xs.take (k*3)=(l.take k).flatMap I3.cells∧Up w wr) (fun i _=>l.length-(intOf i).toNat)
 case atStart=>exact⟨0,_,Nat.zero_le _,rfl,hown,by simp,hup1⟩
 case round =>
  obtain⟨k,xs,hk,rfl,hown,hxs,hup⟩:=hrel
  have HX:=qh hxs
  clear hxs;by_cases hlt:k<l.length
  ·obtain⟨b,off,d,rfl,hlo,hb,hd,q0,q1,q2⟩:=(hr.up hup hhi).i3 hlt
   have HD:=qh hd
   clear hd;go_wp2_with (go_at_call 106;refine(toStay_any d _).mono ?_;rintro e w' ⟨rfl,hup'⟩;have hown':=own_up hown hup';clear hown;obtain⟨u0,r0⟩:=own_cell hown' (p:=k*3) (by omega);obtain⟨u1,r1⟩:=own_cell hown' (p:=k*3+1) (by omega);obtain⟨u2,r2⟩:=own_cell hown' (p:=k*3+2) (by omega);have z0:=hown'.frozenAt (k*3);have z1:=hown'.frozenAt (k*3+1);have z2:=hown'.frozenAt (k*3+2))
   go_roundw
   case rel=>exact⟨k+1,_,by omega,by go_num,(((hown'.stored _ _).1.stored _ _).1.stored _ _).1,setStay hown'.1 HD.out HX.out,((((hup.trans hup').setCell (by simp) _).setCell (by simp) _).setCell (by simp) _)⟩
   case measure=>simp[intOf];omega
  ·go_wp2
   go_ret;have hk2:k=l.length:=by omega
   subst hk2;have hx:=HX.out
   rw[List.take_of_length_le (by rw[hown.1];omega),List.take_of_length_le (Nat.le_refl _)]at hx
   subst hx;exact⟨_,rfl,hown,hup⟩
theorem eqStay_same(d:I3)(w:World) :
 Calls Tryz.prog 128 #[d.val,d.val] w fun e w'=>e=.returned (.bool true)∧Up w w':=by
 have hss:∀s:ByteArray,(s.toList==s.toList)=true:=fun s=>by simp
 have hii:∀i:Int,(i != i)=false:=fun s=>by simp
 go_enter Tryz.func128,Tryz.ntmps128
 go_wp2
 all_goals first|(exfalso;simp_all;done)|(go_ret;exact⟨rfl,((Up.refl _).allocs _).allocs _⟩)
theorem eqStayS_same(A B:Option Addr)(l:List I3)(c c' lo hi lo' hi':Nat)(w:World)(hr:RdI3 w lo hi A l)(hhi:hi≤w.heap.size)(hr':RdI3 w lo' hi' B l)(hhi':hi'≤w.heap.size)(hn:l.length≤2000000) :
 Calls Tryz.prog 72 #[.slice A l.length c,.slice B l.length c'] w fun e w'=>e=.returned (.bool true)∧Up w w':=by
 go_enter Tryz.func72,Tryz.ntmps72
 go_wp2;go_loopw [5] (fun i wr=>∃k:Nat,k≤l.length∧i=.int .i64 k∧Up w wr) (fun i _=>l.length-(intOf i).toNat)
 case atStart=>exact⟨0,Nat.zero_le _,rfl,Up.refl _⟩
 case round =>
  obtain⟨k,hk,rfl,hup⟩:=hrel
  by_cases hlt:k<l.length
  ·obtain⟨b1,o1,d1,rfl,-,-,hd1,p0,p1,p2⟩:=(hr.up hup hhi).i3 hlt
   obtain⟨b2,o2,d2,rfl,-,-,hd2,q0,q1,q2⟩:=(hr'.up hup hhi').i3 hlt
   obtain rfl:d1=d2:=by rw[hd1]at hd2;exact Option.some.inj hd2
   clear hd1 hd2;have P0:=cell_regrown p0
   have Q0:=cell_regrown q0
   have P1:=cell_regrown p1
   have Q1:=cell_regrown q1
   have P2:=cell_regrown p2
   have Q2:=cell_regrown q2
   go_wp2_with fail
   refine wp_region_quiet_below (by kernel_rfl) (by kernel_rfl) ?_
   repeat (quiet_step ((go_at_call 128;exact Calls.regrown_of (eqStay_same d1 _))))
   refine wpQuiet_nil ?_
   intro w2 hw2
   obtain⟨⟨dq,osq⟩,hw2⟩:=hw2
   have hup2:Up wr w2:=by rw[hw2];exact below_regrown _ _ _
   clear hw2 P0 Q0 P1 Q1 P2 Q2;go_wp2;go_roundw
   case rel=>exact⟨k+1,by omega,by go_num,hup.trans hup2⟩
   case measure=>simp[intOf];omega
  ·go_wp2
   go_ret;exact⟨rfl,hup⟩
theorem szClause_any(d:Cl)(hd:d.ok)(left:Int)(w:World)(h0:0≤left)(hl:left≤2000000) :
 Calls Tryz.prog 139 #[d.val,.int .i64 left] w fun e w'=>∃z,e=.returned (.int .i64 z)∧z≤left∧Up w w':=by
 have h1:d.kg.size≤maxLen:=hd
 unfold maxLen at h1
 by_cases c1:left<(d.kg.size:Nat)
 ·go_enter Tryz.func139,Tryz.ntmps139
  go_wp2;go_ret;exact⟨_,rfl,by omega,Up.alloc _ _⟩
 ·go_enter Tryz.func139,Tryz.ntmps139
  go_wp2;go_ret;exact⟨_,rfl,by omega,Up.alloc _ _⟩
theorem szClauseS_any(A:Option Addr)(l:List Cl)(c lo hi:Nat)(left:Int)(w:World)(hr:RdCl w lo hi A l)(hhi:hi≤w.heap.size)(hok:∀d∈l,Cl.ok d)(h0:0≤left)(hl:left≤2000000)(hn:l.length≤maxLen) :
 Calls Tryz.prog 91 #[.slice A l.length c,.int .i64 left] w fun e w'=>∃z:Int,e=.returned (.int .i64 z)∧z≤left∧(z<0∨z+(l.length:Int)≤left)∧Up w w':=by
 unfold maxLen at hn
 by_cases c1:left<l.length
 ·go_enter Tryz.func91,Tryz.ntmps91
  go_wp2;go_ret;exact⟨-1,rfl,by omega,.inl (by omega),Up.refl _⟩
 ·go_enter Tryz.func91,Tryz.ntmps91
  have hb0:decide (left-(l.length:Int)<0)=false:=by simp;omega
  go_wp2;go_loopw [4,1,5] (fun r lf i wr=>∃k:Nat,∃z:Int,k≤l.length∧i=.int .i64 k∧lf=.int .i64 z∧0≤z∧z+(l.length:Int)≤left∧Up w wr) (fun _ _ i _=>l.length-(intOf i).toNat)
  case atStart=>exact⟨0,_,Nat.zero_le _,rfl,rfl,by omega,by omega,Up.refl _⟩
  case round =>
   obtain⟨k,z,hk,rfl,rfl,hz0,hz1,hup⟩:=hrel
   by_cases hlt:k<l.length
   ·obtain⟨b,off,d,rfl,hlo,hb,hd,q0,q1,q2,q3,q4,q5,q6,q7⟩:=(hr.up hup hhi).cl hlt
    have HD:=qh hd
    clear hd;go_wp2_with fail
    refine(szClause_any d (hok d (List.mem_of_getElem? HD.out)) _ _ (by omega) (by omega)).mono ?_
    rintro e w' ⟨z',rfl,hz',hup'⟩
    by_cases c2:z' < 0
    ·have hdec:decide (z' < 0)=true:=by simpa using c2
     go_wp2;go_ret;exact⟨-1,rfl,by omega,.inl (by omega),hup.trans hup'⟩
    ·have hdec:decide (z' < 0)=false:=by simpa using c2
     go_wp2;go_roundw
     case rel=>exact⟨k+1,_,by omega,by go_num,rfl,by omega,by omega,hup.trans hup'⟩
     case measure=>simp[intOf];omega
   ·go_wp2
    go_ret;exact⟨z,rfl,by omega,.inr (by omega),hup⟩
theorem infoClause:(Tryz.prog.info? 209).map (fun i=>(i.zero,i.size,i.bytes))=some (some (.agg #[.int .i64 0,.int .i64 0,.int .i64 0,.int .i64 0,.int .i64 0,.int .i64 0,.int .i64 0,.string ByteArray.empty]),8,72):=by kernel_rfl
theorem toClause_any(d:Cl)(w:World) :
 Calls Tryz.prog 153 #[d.val] w fun e w'=>e=.returned d.val∧Up w w':=by
 go_enter Tryz.func153,Tryz.ntmps153
 go_wp2;exact bodyPost_ret (v:=d.val) (by simp[results,Tryz.results153,go_sem]) rfl ⟨rfl,by repeat (first|exact Up.alloc _ _|refine Up.allocs ?_ _|refine Up.setCell ?_ (by simp;try omega) _)⟩
theorem setClause{xs:List Value}{l:List Cl}{k:Nat}{d:Cl}(hx:xs.length=l.length*8)(hd:l[k]?=some d)(ht:xs.take (k*8)=(l.take k).flatMap Cl.cells) :
 (((((((((xs.set (k*8) (.int .i64 d.ki)).set (k*8+1) (.int .i64 d.nu)).set (k*8+2) (.int .i64 d.mo)).set (k*8+3) (.int .i64 d.fe)).set (k*8+4) (.int .i64 d.re_)).set (k*8+5) (.int .i64 d.wk)).set (k*8+6) (.int .i64 d.sy)).set (k*8+7) (.string d.kg))).take ((k+1)*8)=(l.take (k+1)).flatMap Cl.cells:=by
 have hk:k<l.length:=(List.getElem?_eq_some_iff.1 hd).1
 rw[take_flat_succ _ hd,show(k+1)*8=k*8+7+1 by omega,take_set_succ (by simp;omega),take_set_succ (by simp;omega),take_set_succ (by simp;omega),take_set_succ (by simp;omega),take_set_succ (by simp;omega),take_set_succ (by simp;omega),take_set_succ (by simp;omega),take_set_succ (by omega),ht]
 simp
theorem toClauseS_any(A:Option Addr)(l:List Cl)(c lo hi:Nat)(w:World)(hr:RdCl w lo hi A l)(hhi:hi≤w.heap.size)(hn:l.length≤2000000) :
 Calls Tryz.prog 108 #[.slice A l.length c] w fun e w'=>∃v,e=.returned v∧w'.ownsRow w.heap.size 209 8 v l.length (l.flatMap Cl.cells)∧Up w w':=by
 obtain⟨i0,hi0,hz0,hz1,hz2⟩:=info_parts infoClause
 go_enter Tryz.func108,Tryz.ntmps108
 go_wp2_with ((refine wpList_make_full _ rfl _ _ 78 rfl w.heap.size 209 i0 _ 8 Tryz.underlying78 hi0 hz0 hz1 _ _ _ _ l.length rfl rfl rfl rfl ?b2 ?b3 ?b4 ?_))
 case b2=>rw[hz2];omega
 case b3=>unfold maxLen;omega
 case b4=>exact Nat.le_refl _
 intro w1 hown hg
 have hup1:Up w w1:=(Up.refl w).grown hg (fun k h=>by cases h)
 generalize (madeCells _ _).toList=xs0 at hown
 clear hg;go_wp2;go_loopw [4] (fun i wr=>∃k:Nat,∃xs,k≤l.length∧i=.int .i64 k∧wr.ownsRow w.heap.size 209 8 (.slice (some ⟨w.heap.size,0,none⟩) l.length l.length) l.length xs∧xs.take (k*8)=(l.take k).flatMap Cl.cells∧Up w wr) (fun i _=>l.length-(intOf i).toNat)
 case atStart=>exact⟨0,_,Nat.zero_le _,rfl,hown,by simp,hup1⟩
 case round =>
  obtain⟨k,xs,hk,rfl,hown,hxs,hup⟩:=hrel
  have HX:=qh hxs
  clear hxs;by_cases hlt:k<l.length
  ·obtain⟨b,off,d,rfl,hlo,hb,hd,q0,q1,q2,q3,q4,q5,q6,q7⟩:=(hr.up hup hhi).cl hlt
   have HD:=qh hd
   clear hd;go_wp2_with (go_at_call 153;refine(toClause_any d _).mono ?_;rintro e w' ⟨rfl,hup'⟩;have hown':=own_up hown hup';clear hown;obtain⟨u0,r0⟩:=own_cell hown' (p:=k*8) (by omega);obtain⟨u1,r1⟩:=own_cell hown' (p:=k*8+1) (by omega);obtain⟨u2,r2⟩:=own_cell hown' (p:=k*8+2) (by omega);obtain⟨u3,r3⟩:=own_cell hown' (p:=k*8+3) (by omega);obtain⟨u4,r4⟩:=own_cell hown' (p:=k*8+4) (by omega);obtain⟨u5,r5⟩:=own_cell hown' (p:=k*8+5) (by omega);obtain⟨u6,r6⟩:=own_cell hown' (p:=k*8+6) (by omega);obtain⟨u7,r7⟩:=own_cell hown' (p:=k*8+7) (by omega);have z0:=hown'.frozenAt (k*8);have z1:=hown'.frozenAt (k*8+1);have z2:=hown'.frozenAt (k*8+2);have z3:=hown'.frozenAt (k*8+3);have z4:=hown'.frozenAt (k*8+4);have z5:=hown'.frozenAt (k*8+5);have z6:=hown'.frozenAt (k*8+6);have z7:=hown'.frozenAt (k*8+7))
   go_roundw
   case rel=>exact⟨k+1,_,by omega,by go_num,((((((((hown'.stored _ _).1.stored _ _).1.stored _ _).1.stored _ _).1.stored _ _).1.stored _ _).1.stored _ _).1.stored _ _).1,setClause hown'.1 HD.out HX.out,(((((((((hup.trans hup').setCell (by simp) _).setCell (by simp) _).setCell (by simp) _).setCell (by simp) _).setCell (by simp) _).setCell (by simp) _).setCell (by simp) _).setCell (by simp) _)⟩
   case measure=>simp[intOf];omega
  ·go_wp2
   go_ret;have hk2:k=l.length:=by omega
   subst hk2;have hx:=HX.out
   rw[List.take_of_length_le (by rw[hown.1];omega),List.take_of_length_le (Nat.le_refl _)]at hx
   subst hx;exact⟨_,rfl,hown,hup⟩
theorem eqClause_same(d:Cl)(w:World) :
 Calls Tryz.prog 176 #[d.val,d.val] w fun e w'=>e=.returned (.bool true)∧Up w w':=by
 have hss:∀s:ByteArray,(s.toList==s.toList)=true:=fun s=>by simp
 have hii:∀i:Int,(i != i)=false:=fun s=>by simp
 go_enter Tryz.func176,Tryz.ntmps176
 go_wp2
 all_goals first|(exfalso;simp_all;done)|(go_ret;exact⟨rfl,((Up.refl _).allocs _).allocs _⟩)
theorem eqClauseS_same(A B:Option Addr)(l:List Cl)(c c' lo hi lo' hi':Nat)(w:World)(hr:RdCl w lo hi A l)(hhi:hi≤w.heap.size)(hr':RdCl w lo' hi' B l)(hhi':hi'≤w.heap.size)(hn:l.length≤2000000) :
 Calls Tryz.prog 130 #[.slice A l.length c,.slice B l.length c'] w fun e w'=>e=.returned (.bool true)∧Up w w':=by
 go_enter Tryz.func130,Tryz.ntmps130
 go_wp2;go_loopw [5] (fun i wr=>∃k:Nat,k≤l.length∧i=.int .i64 k∧Up w wr) (fun i _=>l.length-(intOf i).toNat)
 case atStart=>exact⟨0,Nat.zero_le _,rfl,Up.refl _⟩
 case round =>
  obtain⟨k,hk,rfl,hup⟩:=hrel
  by_cases hlt:k<l.length
  ·obtain⟨b1,o1,d1,rfl,-,-,hd1,p0,p1,p2,p3,p4,p5,p6,p7⟩:=(hr.up hup hhi).cl hlt
   obtain⟨b2,o2,d2,rfl,-,-,hd2,q0,q1,q2,q3,q4,q5,q6,q7⟩:=(hr'.up hup hhi').cl hlt
   obtain rfl:d1=d2:=by rw[hd1]at hd2;exact Option.some.inj hd2
   clear hd1 hd2;have P0:=cell_regrown p0
   have Q0:=cell_regrown q0
   have P1:=cell_regrown p1
   have Q1:=cell_regrown q1
   have P2:=cell_regrown p2
   have Q2:=cell_regrown q2
   have P3:=cell_regrown p3
   have Q3:=cell_regrown q3
   have P4:=cell_regrown p4
   have Q4:=cell_regrown q4
   have P5:=cell_regrown p5
   have Q5:=cell_regrown q5
   have P6:=cell_regrown p6
   have Q6:=cell_regrown q6
   have P7:=cell_regrown p7
   have Q7:=cell_regrown q7
   go_wp2_with fail
   refine wp_region_quiet_below (by kernel_rfl) (by kernel_rfl) ?_
   repeat (quiet_step ((go_at_call 176;exact Calls.regrown_of (eqClause_same d1 _))))
   refine wpQuiet_nil ?_
   intro w2 hw2
   obtain⟨⟨dq,osq⟩,hw2⟩:=hw2
   have hup2:Up wr w2:=by rw[hw2];exact below_regrown _ _ _
   clear hw2 P0 Q0 P1 Q1 P2 Q2 P3 Q3 P4 Q4 P5 Q5 P6 Q6 P7 Q7;go_wp2;go_roundw
   case rel=>exact⟨k+1,by omega,by go_num,hup.trans hup2⟩
   case measure=>simp[intOf];omega
  ·go_wp2
   go_ret;exact⟨rfl,hup⟩
theorem szWitness_any(d:Wi)(hd:d.ok)(left:Int)(w:World)(h0:0≤left)(hl:left≤2000000) :
 Calls Tryz.prog 140 #[d.val,.int .i64 left] w fun e w'=>∃z,e=.returned (.int .i64 z)∧z≤left∧Up w w':=by
 obtain⟨h1,h2⟩:=hd
 unfold maxLen at h1 h2
 by_cases c1:left<(d.pe.size:Nat)
 ·go_enter Tryz.func140,Tryz.ntmps140
  go_wp2;go_ret;exact⟨_,rfl,by omega,Up.alloc _ _⟩
 ·by_cases c2:left<(d.pe.size+d.of_.size:Nat)
  ·go_enter Tryz.func140,Tryz.ntmps140
   go_wp2;go_ret;exact⟨_,rfl,by omega,Up.alloc _ _⟩
  ·go_enter Tryz.func140,Tryz.ntmps140
   go_wp2;go_ret;exact⟨_,rfl,by omega,Up.alloc _ _⟩
theorem szWitnessS_any(A:Option Addr)(l:List Wi)(c lo hi:Nat)(left:Int)(w:World)(hr:RdWi w lo hi A l)(hhi:hi≤w.heap.size)(hok:∀d∈l,Wi.ok d)(h0:0≤left)(hl:left≤2000000)(hn:l.length≤maxLen) :
 Calls Tryz.prog 92 #[.slice A l.length c,.int .i64 left] w fun e w'=>∃z:Int,e=.returned (.int .i64 z)∧z≤left∧(z<0∨z+(l.length:Int)≤left)∧Up w w':=by
 unfold maxLen at hn
 by_cases c1:left<l.length
 ·go_enter Tryz.func92,Tryz.ntmps92
  go_wp2;go_ret;exact⟨-1,rfl,by omega,.inl (by omega),Up.refl _⟩
 ·go_enter Tryz.func92,Tryz.ntmps92
  have hb0:decide (left-(l.length:Int)<0)=false:=by simp;omega
  go_wp2;go_loopw [4,1,5] (fun r lf i wr=>∃k:Nat,∃z:Int,k≤l.length∧i=.int .i64 k∧lf=.int .i64 z∧0≤z∧z+(l.length:Int)≤left∧Up w wr) (fun _ _ i _=>l.length-(intOf i).toNat)
  case atStart=>exact⟨0,_,Nat.zero_le _,rfl,rfl,by omega,by omega,Up.refl _⟩
  case round =>
   obtain⟨k,z,hk,rfl,rfl,hz0,hz1,hup⟩:=hrel
   by_cases hlt:k<l.length
   ·obtain⟨b,off,d,rfl,hlo,hb,hd,q0,q1⟩:=(hr.up hup hhi).wi hlt
    have HD:=qh hd
    clear hd;go_wp2_with fail
    refine(szWitness_any d (hok d (List.mem_of_getElem? HD.out)) _ _ (by omega) (by omega)).mono ?_
    rintro e w' ⟨z',rfl,hz',hup'⟩
    by_cases c2:z' < 0
    ·have hdec:decide (z' < 0)=true:=by simpa using c2
     go_wp2;go_ret;exact⟨-1,rfl,by omega,.inl (by omega),hup.trans hup'⟩
    ·have hdec:decide (z' < 0)=false:=by simpa using c2
     go_wp2;go_roundw
     case rel=>exact⟨k+1,_,by omega,by go_num,rfl,by omega,by omega,hup.trans hup'⟩
     case measure=>simp[intOf];omega
   ·go_wp2
    go_ret;exact⟨z,rfl,by omega,.inr (by omega),hup⟩
theorem infoWitness:(Tryz.prog.info? 167).map (fun i=>(i.zero,i.size,i.bytes))=some (some (.agg #[.string ByteArray.empty,.string ByteArray.empty]),2,32):=by kernel_rfl
theorem toWitness_any(d:Wi)(w:World) :
 Calls Tryz.prog 154 #[d.val] w fun e w'=>e=.returned d.val∧Up w w':=by
 go_enter Tryz.func154,Tryz.ntmps154
 go_wp2;exact bodyPost_ret (v:=d.val) (by simp[results,Tryz.results154,go_sem]) rfl ⟨rfl,by repeat (first|exact Up.alloc _ _|refine Up.allocs ?_ _|refine Up.setCell ?_ (by simp;try omega) _)⟩
theorem setWitness{xs:List Value}{l:List Wi}{k:Nat}{d:Wi}(hx:xs.length=l.length*2)(hd:l[k]?=some d)(ht:xs.take (k*2)=(l.take k).flatMap Wi.cells) :
 (((xs.set (k*2) (.string d.pe)).set (k*2+1) (.string d.of_))).take ((k+1)*2)=(l.take (k+1)).flatMap Wi.cells:=by
 have hk:k<l.length:=(List.getElem?_eq_some_iff.1 hd).1
 rw[take_flat_succ _ hd,show(k+1)*2=k*2+1+1 by omega,take_set_succ (by simp;omega),take_set_succ (by omega),ht]
 simp
theorem toWitnessS_any(A:Option Addr)(l:List Wi)(c lo hi:Nat)(w:World)(hr:RdWi w lo hi A l)(hhi:hi≤w.heap.size)(hn:l.length≤2000000) :
 Calls Tryz.prog 109 #[.slice A l.length c] w fun e w'=>∃v,e=.returned v∧w'.ownsRow w.heap.size 167 2 v l.length (l.flatMap Wi.cells)∧Up w w':=by
 obtain⟨i0,hi0,hz0,hz1,hz2⟩:=info_parts infoWitness
 go_enter Tryz.func109,Tryz.ntmps109
 go_wp2_with ((refine wpList_make_full _ rfl _ _ 79 rfl w.heap.size 167 i0 _ 2 Tryz.underlying79 hi0 hz0 hz1 _ _ _ _ l.length rfl rfl rfl rfl ?b2 ?b3 ?b4 ?_))
 case b2=>rw[hz2];omega
 case b3=>unfold maxLen;omega
 case b4=>exact Nat.le_refl _
 intro w1 hown hg
 have hup1:Up w w1:=(Up.refl w).grown hg (fun k h=>by cases h)
 generalize (madeCells _ _).toList=xs0 at hown
 clear hg;go_wp2;go_loopw [4] (fun i wr=>∃k:Nat,∃xs,k≤l.length∧i=.int .i64 k∧wr.ownsRow w.heap.size 167 2 (.slice (some ⟨w.heap.size,0,none⟩) l.length l.length) l.length xs∧xs.take (k*2)=(l.take k).flatMap Wi.cells∧Up w wr) (fun i _=>l.length-(intOf i).toNat)
 case atStart=>exact⟨0,_,Nat.zero_le _,rfl,hown,by simp,hup1⟩
 case round =>
  obtain⟨k,xs,hk,rfl,hown,hxs,hup⟩:=hrel
  have HX:=qh hxs
  clear hxs;by_cases hlt:k<l.length
  ·obtain⟨b,off,d,rfl,hlo,hb,hd,q0,q1⟩:=(hr.up hup hhi).wi hlt
   have HD:=qh hd
   clear hd;go_wp2_with (go_at_call 154;refine(toWitness_any d _).mono ?_;rintro e w' ⟨rfl,hup'⟩;have hown':=own_up hown hup';clear hown;obtain⟨u0,r0⟩:=own_cell hown' (p:=k*2) (by omega);obtain⟨u1,r1⟩:=own_cell hown' (p:=k*2+1) (by omega);have z0:=hown'.frozenAt (k*2);have z1:=hown'.frozenAt (k*2+1))
   go_roundw
   case rel=>exact⟨k+1,_,by omega,by go_num,((hown'.stored _ _).1.stored _ _).1,setWitness hown'.1 HD.out HX.out,(((hup.trans hup').setCell (by simp) _).setCell (by simp) _)⟩
   case measure=>simp[intOf];omega
  ·go_wp2
   go_ret;have hk2:k=l.length:=by omega
   subst hk2;have hx:=HX.out
   rw[List.take_of_length_le (by rw[hown.1];omega),List.take_of_length_le (Nat.le_refl _)]at hx
   subst hx;exact⟨_,rfl,hown,hup⟩
theorem eqWitness_same(d:Wi)(w:World) :
 Calls Tryz.prog 177 #[d.val,d.val] w fun e w'=>e=.returned (.bool true)∧Up w w':=by
 have hss:∀s:ByteArray,(s.toList==s.toList)=true:=fun s=>by simp
 have hii:∀i:Int,(i != i)=false:=fun s=>by simp
 go_enter Tryz.func177,Tryz.ntmps177
 go_wp2
 all_goals first|(exfalso;simp_all;done)|(go_ret;exact⟨rfl,((Up.refl _).allocs _).allocs _⟩)
theorem eqWitnessS_same(A B:Option Addr)(l:List Wi)(c c' lo hi lo' hi':Nat)(w:World)(hr:RdWi w lo hi A l)(hhi:hi≤w.heap.size)(hr':RdWi w lo' hi' B l)(hhi':hi'≤w.heap.size)(hn:l.length≤2000000) :
 Calls Tryz.prog 131 #[.slice A l.length c,.slice B l.length c'] w fun e w'=>e=.returned (.bool true)∧Up w w':=by
 go_enter Tryz.func131,Tryz.ntmps131
 go_wp2;go_loopw [5] (fun i wr=>∃k:Nat,k≤l.length∧i=.int .i64 k∧Up w wr) (fun i _=>l.length-(intOf i).toNat)
 case atStart=>exact⟨0,Nat.zero_le _,rfl,Up.refl _⟩
 case round =>
  obtain⟨k,hk,rfl,hup⟩:=hrel
  by_cases hlt:k<l.length
  ·obtain⟨b1,o1,d1,rfl,-,-,hd1,p0,p1⟩:=(hr.up hup hhi).wi hlt
   obtain⟨b2,o2,d2,rfl,-,-,hd2,q0,q1⟩:=(hr'.up hup hhi').wi hlt
   obtain rfl:d1=d2:=by rw[hd1]at hd2;exact Option.some.inj hd2
   clear hd1 hd2;have P0:=cell_regrown p0
   have Q0:=cell_regrown q0
   have P1:=cell_regrown p1
   have Q1:=cell_regrown q1
   go_wp2_with fail
   refine wp_region_quiet_below (by kernel_rfl) (by kernel_rfl) ?_
   repeat (quiet_step ((go_at_call 177;exact Calls.regrown_of (eqWitness_same d1 _))))
   refine wpQuiet_nil ?_
   intro w2 hw2
   obtain⟨⟨dq,osq⟩,hw2⟩:=hw2
   have hup2:Up wr w2:=by rw[hw2];exact below_regrown _ _ _
   clear hw2 P0 Q0 P1 Q1;go_wp2;go_roundw
   case rel=>exact⟨k+1,by omega,by go_num,hup.trans hup2⟩
   case measure=>simp[intOf];omega
  ·go_wp2
   go_ret;exact⟨rfl,hup⟩
theorem szSL_len2{l:List ByteArray}{left:Int}(_h:0≤left)(hz:¬ szSL l left<0):szSL l left+(l.length:Int)≤left:=by
 unfold szSL at hz ⊢
 split at hz
 ·omega
 ·rename_i hc
  have:=szSs_le l (left-l.length) (by omega)
  rw[if_neg hc];omega
theorem szStringS_w(A:Option Addr)(l:List ByteArray)(c lo hi:Nat)(left:Int)(w:World)(hr:RdT w lo hi A l)(_hhi:hi≤w.heap.size)(hok:∀d∈l,strOk d)(h0:0≤left)(hl:left≤2000000)(hn:l.length≤maxLen) :
 Calls Tryz.prog 47 #[.slice A l.length c,.int .i64 left] w fun e w'=>∃z:Int,e=.returned (.int .i64 z)∧z≤left∧(z<0∨z+(l.length:Int)≤left)∧Up w w' :=
 (szStringS_any A l c lo hi left w hr hok hn h0 hl).mono fun e w' ⟨h,h2⟩=>by
   subst h2;refine⟨_,h,(szSL_le l left h0).1,?_,Up.refl _⟩
   by_cases c:szSL l left<0
   ·exact .inl c
   ·have:=szSL_len2 h0 c
    exact .inr (by omega)
theorem szChancery_any(s:Sl Nm)(fr to_:Int)(lo hi:Nat)(left:Int)(w:World)(h:SqNm w lo hi s)(h0:0≤left)(hl:left≤2000000) :
 Calls Tryz.prog 40 #[.agg #[.slice s.A s.l.length s.c,.int .i64 fr,.int .i64 to_],.int .i64 left] w fun e w'=>∃z:Int,e=.returned (.int .i64 z)∧z≤left∧(z<0∨z+(s.l.length:Int)≤left)∧Up w w':=by
 have u0:=Up.alloc w (.cells #[.slice s.A s.l.length s.c,.int .i64 fr,.int .i64 to_] 24)
 have hB0:=Bx.new w #[.slice s.A s.l.length s.c,.int .i64 fr,.int .i64 to_] 24
 go_enter Tryz.func40,Tryz.ntmps40
 go_wp2_with fail
 generalize w.alloc (.cells #[.slice s.A s.l.length s.c,.int .i64 fr,.int .i64 to_] 24)=w0 at *
 refine(szReignS_any s.A s.l s.c lo hi left _ (h.rd.up u0 h.hhi) (Nat.le_trans h.hhi u0.size) h.ok (by omega) (by omega) h.len).mono ?_
 rintro e w1 ⟨z1,rfl,hz1,sm1,v1⟩
 have u1:=u0.trans v1
 have hB1:=hB0.up v1
 obtain⟨x0,x1,x2⟩:=hB1.c3
 by_cases c1:z1<0
 ·have hd:decide (z1<0)=true:=by simpa using c1
  go_wp2;go_ret;exact⟨-1,rfl,by omega,.inl (by omega),u1⟩
 have hd1:decide (z1<0)=false:=by simpa using c1
 go_wp2;go_ret;exact⟨z1,rfl,by omega,.inr (by omega),u1⟩
theorem szPeople_any(s:Sl Nm)(t:Sl Tm)(lo hi:Nat)(left:Int)(w:World)(h:SqNm w lo hi s)(k:SqTm w lo hi t)(h0:0≤left)(hl:left≤2000000) :
 Calls Tryz.prog 41 #[.agg #[.slice s.A s.l.length s.c,.slice t.A t.l.length t.c],.int .i64 left] w fun e w'=>∃z:Int,e=.returned (.int .i64 z)∧z≤left∧(z<0∨z+((s.l.length:Int)+t.l.length)≤left)∧Up w w':=by
 have u0:=Up.alloc w (.cells #[.slice s.A s.l.length s.c,.slice t.A t.l.length t.c] 28)
 have hB0:=Bx.new w #[.slice s.A s.l.length s.c,.slice t.A t.l.length t.c] 28
 go_enter Tryz.func41,Tryz.ntmps41
 go_wp2_with fail
 generalize w.alloc (.cells #[.slice s.A s.l.length s.c,.slice t.A t.l.length t.c] 28)=w0 at *
 refine(szPersonS_any s.A s.l s.c lo hi left _ (h.rd.up u0 h.hhi) (Nat.le_trans h.hhi u0.size) h.ok (by omega) (by omega) h.len).mono ?_
 rintro e w1 ⟨z1,rfl,hz1,sm1,v1⟩
 have u1:=u0.trans v1
 have hB1:=hB0.up v1
 obtain⟨x0,x1⟩:=hB1.c2
 by_cases c1:z1<0
 ·have hd:decide (z1<0)=true:=by simpa using c1
  go_wp2;go_ret;exact⟨-1,rfl,by omega,.inl (by omega),u1⟩
 have hd1:decide (z1<0)=false:=by simpa using c1
 go_wp2_with fail
 refine(szTermS_any t.A t.l t.c lo hi z1 _ (k.rd.up u1 k.hhi) (Nat.le_trans k.hhi u1.size) k.ok (by omega) (by omega) k.len).mono ?_
 rintro e w2 ⟨z2,rfl,hz2,sm2,v2⟩
 have u2:=u1.trans v2
 have hB2:=hB1.up v2
 obtain⟨x0,x1⟩:=hB2.c2
 by_cases c2:z2<0
 ·have hd:decide (z2<0)=true:=by simpa using c2
  go_wp2;go_ret;exact⟨-1,rfl,by omega,.inl (by omega),u2⟩
 have hd2:decide (z2<0)=false:=by simpa using c2
 go_wp2;go_ret;exact⟨z2,rfl,by omega,.inr (by omega),u2⟩
theorem szLand_any(s:Sl ByteArray)(t:Sl I3)(lo hi:Nat)(left:Int)(w:World)(h:SqSt w lo hi s)(k:SqI3 w lo hi t)(h0:0≤left)(hl:left≤2000000) :
 Calls Tryz.prog 42 #[.agg #[.slice s.A s.l.length s.c,.slice t.A t.l.length t.c],.int .i64 left] w fun e w'=>∃z:Int,e=.returned (.int .i64 z)∧z≤left∧(z<0∨z+((s.l.length:Int)+t.l.length)≤left)∧Up w w':=by
 have u0:=Up.alloc w (.cells #[.slice s.A s.l.length s.c,.slice t.A t.l.length t.c] 32)
 have hB0:=Bx.new w #[.slice s.A s.l.length s.c,.slice t.A t.l.length t.c] 32
 go_enter Tryz.func42,Tryz.ntmps42
 go_wp2_with fail
 generalize w.alloc (.cells #[.slice s.A s.l.length s.c,.slice t.A t.l.length t.c] 32)=w0 at *
 refine(szStringS_w s.A s.l s.c lo hi left _ (h.rd.up u0 h.hhi) (Nat.le_trans h.hhi u0.size) h.ok (by omega) (by omega) h.len).mono ?_
 rintro e w1 ⟨z1,rfl,hz1,sm1,v1⟩
 have u1:=u0.trans v1
 have hB1:=hB0.up v1
 obtain⟨x0,x1⟩:=hB1.c2
 by_cases c1:z1<0
 ·have hd:decide (z1<0)=true:=by simpa using c1
  go_wp2;go_ret;exact⟨-1,rfl,by omega,.inl (by omega),u1⟩
 have hd1:decide (z1<0)=false:=by simpa using c1
 go_wp2_with fail
 refine(szWayS_any t.A t.l t.c z1 _ (by omega) (by omega) k.len).mono ?_
 rintro e w2 ⟨z2,rfl,hz2,sm2,v2⟩
 have u2:=u1.trans v2
 have hB2:=hB1.up v2
 obtain⟨x0,x1⟩:=hB2.c2
 by_cases c2:z2<0
 ·have hd:decide (z2<0)=true:=by simpa using c2
  go_wp2;go_ret;exact⟨-1,rfl,by omega,.inl (by omega),u2⟩
 have hd2:decide (z2<0)=false:=by simpa using c2
 go_wp2;go_ret;exact⟨z2,rfl,by omega,.inr (by omega),u2⟩
def nW(x:Wd):Int:=(x.rs.l.length:Int)+((x.ps.l.length:Int)+x.ts.l.length)+((x.pl.l.length:Int)+x.ws.l.length)+x.st.l.length+x.se.l.length+x.ha.l.length
theorem szWorld_any(x:Wd)(lo hi:Nat)(left:Int)(w:World)(h:RawW w lo hi x)(h0:0≤left)(hl:left≤2000000) :
 Calls Tryz.prog 13 #[.agg #[.slice x.rs.A x.rs.l.length x.rs.c,.int .i64 x.fr,.int .i64 x.to_,.slice x.ps.A x.ps.l.length x.ps.c,.slice x.ts.A x.ts.l.length x.ts.c,.slice x.pl.A x.pl.l.length x.pl.c,.slice x.ws.A x.ws.l.length x.ws.c,.slice x.st.A x.st.l.length x.st.c,.slice x.se.A x.se.l.length x.se.c,.slice x.ha.A x.ha.l.length x.ha.c],.int .i64 left] w fun e w'=>∃z:Int,e=.returned (.int .i64 z)∧z≤left∧(z<0∨z+nW x≤left)∧Up w w':=by
 have u0:=Up.alloc w (.cells #[.slice x.rs.A x.rs.l.length x.rs.c,.int .i64 x.fr,.int .i64 x.to_,.slice x.ps.A x.ps.l.length x.ps.c,.slice x.ts.A x.ts.l.length x.ts.c,.slice x.pl.A x.pl.l.length x.pl.c,.slice x.ws.A x.ws.l.length x.ws.c,.slice x.st.A x.st.l.length x.st.c,.slice x.se.A x.se.l.length x.se.c,.slice x.ha.A x.ha.l.length x.ha.c] 36)
 have hB0:=Bx.new w #[.slice x.rs.A x.rs.l.length x.rs.c,.int .i64 x.fr,.int .i64 x.to_,.slice x.ps.A x.ps.l.length x.ps.c,.slice x.ts.A x.ts.l.length x.ts.c,.slice x.pl.A x.pl.l.length x.pl.c,.slice x.ws.A x.ws.l.length x.ws.c,.slice x.st.A x.st.l.length x.st.c,.slice x.se.A x.se.l.length x.se.c,.slice x.ha.A x.ha.l.length x.ha.c] 36
 go_enter Tryz.func13,Tryz.ntmps13
 go_wp2_with fail
 generalize w.alloc (.cells #[.slice x.rs.A x.rs.l.length x.rs.c,.int .i64 x.fr,.int .i64 x.to_,.slice x.ps.A x.ps.l.length x.ps.c,.slice x.ts.A x.ts.l.length x.ts.c,.slice x.pl.A x.pl.l.length x.pl.c,.slice x.ws.A x.ws.l.length x.ws.c,.slice x.st.A x.st.l.length x.st.c,.slice x.se.A x.se.l.length x.se.c,.slice x.ha.A x.ha.l.length x.ha.c] 36)=w0 at *
 refine(szChancery_any x.rs x.fr x.to_ lo hi left _ (h.rs.up u0) (by omega) (by omega)).mono ?_
 rintro e w1 ⟨z1,rfl,hz1,sm1,v1⟩
 have u1:=u0.trans v1
 have hB1:=hB0.up v1
 obtain⟨x0,x1,x2,x3,x4,x5,x6,x7,x8,x9⟩:=hB1.c10
 by_cases c1:z1<0
 ·have hd:decide (z1<0)=true:=by simpa using c1
  go_wp2;go_ret;exact⟨-1,rfl,by omega,.inl (by omega),u1⟩
 have hd1:decide (z1<0)=false:=by simpa using c1
 go_wp2_with fail
 refine(szPeople_any x.ps x.ts lo hi z1 _ (h.ps.up u1) (h.ts.up u1) (by omega) (by omega)).mono ?_
 rintro e w2 ⟨z2,rfl,hz2,sm2,v2⟩
 have u2:=u1.trans v2
 have hB2:=hB1.up v2
 obtain⟨x0,x1,x2,x3,x4,x5,x6,x7,x8,x9⟩:=hB2.c10
 by_cases c2:z2<0
 ·have hd:decide (z2<0)=true:=by simpa using c2
  go_wp2;go_ret;exact⟨-1,rfl,by omega,.inl (by omega),u2⟩
 have hd2:decide (z2<0)=false:=by simpa using c2
 go_wp2_with fail
 refine(szLand_any x.pl x.ws lo hi z2 _ (h.pl.up u2) (h.ws.up u2) (by omega) (by omega)).mono ?_
 rintro e w3 ⟨z3,rfl,hz3,sm3,v3⟩
 have u3:=u2.trans v3
 have hB3:=hB2.up v3
 obtain⟨x0,x1,x2,x3,x4,x5,x6,x7,x8,x9⟩:=hB3.c10
 by_cases c3:z3<0
 ·have hd:decide (z3<0)=true:=by simpa using c3
  go_wp2;go_ret;exact⟨-1,rfl,by omega,.inl (by omega),u3⟩
 have hd3:decide (z3<0)=false:=by simpa using c3
 go_wp2_with fail
 refine(szStayS_any x.st.A x.st.l x.st.c z3 _ (by omega) (by omega) h.st.len).mono ?_
 rintro e w4 ⟨z4,rfl,hz4,sm4,v4⟩
 have u4:=u3.trans v4
 have hB4:=hB3.up v4
 obtain⟨x0,x1,x2,x3,x4,x5,x6,x7,x8,x9⟩:=hB4.c10
 by_cases c4:z4<0
 ·have hd:decide (z4<0)=true:=by simpa using c4
  go_wp2;go_ret;exact⟨-1,rfl,by omega,.inl (by omega),u4⟩
 have hd4:decide (z4<0)=false:=by simpa using c4
 go_wp2_with fail
 refine(szMarkS_any x.se.A x.se.l x.se.c lo hi z4 _ (h.se.rd.up u4 h.se.hhi) (Nat.le_trans h.se.hhi u4.size) h.se.ok (by omega) (by omega) h.se.len).mono ?_
 rintro e w5 ⟨z5,rfl,hz5,sm5,v5⟩
 have u5:=u4.trans v5
 have hB5:=hB4.up v5
 obtain⟨x0,x1,x2,x3,x4,x5,x6,x7,x8,x9⟩:=hB5.c10
 by_cases c5:z5<0
 ·have hd:decide (z5<0)=true:=by simpa using c5
  go_wp2;go_ret;exact⟨-1,rfl,by omega,.inl (by omega),u5⟩
 have hd5:decide (z5<0)=false:=by simpa using c5
 go_wp2_with fail
 refine(szMarkS_any x.ha.A x.ha.l x.ha.c lo hi z5 _ (h.ha.rd.up u5 h.ha.hhi) (Nat.le_trans h.ha.hhi u5.size) h.ha.ok (by omega) (by omega) h.ha.len).mono ?_
 rintro e w6 ⟨z6,rfl,hz6,sm6,v6⟩
 have u6:=u5.trans v6
 have hB6:=hB5.up v6
 obtain⟨x0,x1,x2,x3,x4,x5,x6,x7,x8,x9⟩:=hB6.c10
 by_cases c6:z6<0
 ·have hd:decide (z6<0)=true:=by simpa using c6
  go_wp2;go_ret;exact⟨-1,rfl,by omega,.inl (by omega),u6⟩
 have hd6:decide (z6<0)=false:=by simpa using c6
 go_wp2;go_ret;exact⟨z6,rfl,by omega,.inr (by unfold nW;omega),u6⟩
end Go.Proofs.YtihcmhmanfobcaaGreatDoor
