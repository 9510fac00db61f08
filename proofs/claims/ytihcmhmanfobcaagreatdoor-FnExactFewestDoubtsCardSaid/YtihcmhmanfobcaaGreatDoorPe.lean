/- Which clauses hold on a day, the program's. -/
import Derived.Test.YtihcmhmanfobcaaGreatDoorPc
import Derived.Test.YtihcmhmanfobcaaGreatDoorCd
import Derived.Test.YtihcmhmanfobcaaGreatDoorCg
set_option maxHeartbeats 4000000
set_option maxRecDepth 100000
namespace Go.Proofs.YtihcmhmanfobcaaGreatDoor
open Go.RowKit Go.Sort
theorem indexFuncRe_any(A:Option Addr)(l:List (Nm))(c lo hi:Nat)(f:FuncId)(caps:Array Value)(p:Nm→Bool)(w:World)(hr:RdNm w lo hi A l)(hhi:hi≤w.heap.size)(hn:l.length≤2000000)(he:∀(args:Array Value) (w:World),(callFunc f args).run Tryz.prog w=.ok (.enter f args) w)(hf:AnsNm w f caps p l) :
 Calls Tryz.prog 252 #[.slice A l.length c,.func (.func f) #[] caps] w fun e w'=>e=.returned (.int .i64 (ixB l p))∧Up w w':=by
 have hent:∀(args:Array Value) (w:World),(callFunc f args).run Tryz.prog w=.ok (.enter f args) w:=he
 go_enter Tryz.func252,Tryz.ntmps252
 go_wp2;go_loopw [4,5,8] (fun u4 u5 i wr=>∃k:Nat,k≤l.length∧i=.int .i64 k∧(∀j x,j<k→l[j]?=some x→p x=false)∧Up w wr) (fun _ _ i _=>l.length-(intOf i).toNat)
 case atStart=>exact⟨0,Nat.zero_le _,rfl,fun j x h=>absurd h (by omega),Up.refl _⟩
 case round =>
  obtain⟨k,hk,rfl,ha,hup⟩:=hrel
  have HA:=qh ha
  clear ha;by_cases hlt:k<l.length
  ·obtain⟨b,off,d,rfl,-,-,hd,q0,q1,q2⟩:=(hr.up hup hhi).nm hlt
   have HD:=qh hd
   clear hd;have HF:=qh (hf d (List.mem_of_getElem? HD.out) wr hup)
   go_wp2_with fail
   refine HF.out.mono ?_
   rintro e w2 ⟨rfl,hup2⟩
   by_cases hp:p d=true
   ·have HP:=qh hp
    go_wp2;go_ret;exact⟨ret_int (ixB_yes HD.out HP.out (fun j x hj hx=>HA.out j x hj hx)).symm,hup.trans hup2⟩
   ·have hp':p d=false:=by simpa using hp
    have HP:=qh hp'
    clear hp;go_wp2;go_roundw
    case rel=>exact⟨k+1,by omega,by go_num,fun j x hj hx=>by
     rcases Nat.lt_or_ge j k with h|h
     ·exact HA.out j x h hx
     ·obtain rfl:j=k:=by omega
      rw[HD.out]at hx;cases hx;exact HP.out,hup.trans hup2⟩
    case measure=>simp[intOf];omega
  ·go_wp2
   go_ret;exact⟨ret_int (ixB_no (fun j x hj hx=>HA.out j x (by omega) hx)).symm,hup⟩
theorem containsFuncRe_any(A:Option Addr)(l:List (Nm))(c lo hi:Nat)(f:FuncId)(caps:Array Value)(p:Nm→Bool)(w:World)(hr:RdNm w lo hi A l)(hhi:hi≤w.heap.size)(hn:l.length≤2000000)(he:∀(args:Array Value) (w:World),(callFunc f args).run Tryz.prog w=.ok (.enter f args) w)(hf:AnsNm w f caps p l) :
 Calls Tryz.prog 210 #[.slice A l.length c,.func (.func f) #[] caps] w fun e w'=>e=.returned (.bool (l.any p))∧Up w w':=by
 have H:=qh (indexFuncRe_any A l c lo hi f caps p w hr hhi hn he hf)
 go_enter Tryz.func210,Tryz.ntmps210
 go_wp2_with (go_at_call 252;refine H.out.mono ?_;rintro e w' ⟨rfl,hup⟩)
 go_ret;exact⟨ret_bool (ixB_any l p),hup⟩
theorem holds1_any(d:Nm)(n nu:Int)(kg:ByteArray)(bc bn:Nat)(w:World)(h0:0≤d.fr)(h1:n≤730499)(c1:w.cell? ⟨bc,1,none⟩=some (.int .i64 nu))(c7:w.cell? ⟨bc,7,none⟩=some (.string kg))(cn:w.cell? ⟨bn,0,none⟩=some (.int .i64 n)) :
 Calls Tryz.prog 211 #[d.val,.pointer (some ⟨bc,0,none⟩),.pointer (some ⟨bn,0,none⟩)] w fun e w'=>e=.returned (.bool ((d.nm.toList==kg.toList) && (inB n d.fr d.to_ && decide (rgY d.fr n=nu))))∧Up w w':=by
 obtain⟨b1,e1⟩:∃z,(d.nm.toList==kg.toList)=z:=⟨_,rfl⟩
 obtain⟨b2,e2⟩:∃z,inB n d.fr d.to_=z:=⟨_,rfl⟩
 obtain⟨b3,e3⟩:∃z,(rgY d.fr n==nu)=z:=⟨_,rfl⟩
 have HG:=qh (show((d.nm.toList==kg.toList) && (inB n d.fr d.to_ && decide (rgY d.fr n=nu)))=(b1 && (b2 && b3)) by rw[← e1,← e2,← e3];rfl)
 have hif:b2=true→d.fr≤n:=fun h=>by rw[← e2]at h;exact(inB_iff'.1 h).1
 rw[HG.out];clear HG;have u:=Up.alloc w (.cells #[.string d.nm,.int .i64 d.fr,.int .i64 d.to_] 233)
 have hB:=Bx.new w #[.string d.nm,.int .i64 d.fr,.int .i64 d.to_] 233
 obtain⟨rg,hrg⟩:∃z,z=rgY d.fr n:=⟨_,rfl⟩
 have cI:=fun wx=>covers_any d n wx
 rw[e2]at cI;have cY:b2=true→∀wx,Calls Tryz.prog 213 #[d.val,.int .i64 n] wx fun e w''=>e=.returned (.int .i64 rg)∧Up wx w'':=fun hb2 wx=>by rw[hrg];exact regnalYear_any d n wx h0 (hif hb2) h1
 rw[← hrg]at e3;have CI:=qh cI
 have CY:=qh cY
 clear hrg hif e2 cI cY;have d1:=u.cell c1
 have d7:=u.cell c7
 have dn:=u.cell cn
 obtain⟨nm,f,t⟩:=d
 simp only[]at *;go_enter Tryz.func211,Tryz.ntmps211
 go_wp2_with fail
 generalize w.alloc (.cells #[.string nm,.int .i64 f,.int .i64 t] 233)=W0 at *
 obtain⟨q0,q1,q2⟩:=hB.c3
 have Q0:=cell_regrown q0
 have Q1:=cell_regrown q1
 have Q2:=cell_regrown q2
 have Y1:=cell_regrown d1
 have Y7:=cell_regrown d7
 have Yn:=cell_regrown dn
 have cI:∀dd os,Calls Tryz.prog 212 #[.agg #[.string nm,.int .i64 f,.int .i64 t],.int .i64 n] (grow (redrawn W0 dd) os) fun e w''=>e=.returned (.bool b2)∧∃p:Regrown,w''=grow (redrawn W0 p.d) p.os:=fun dd os=>Calls.regrown_of (CI.out _)
 have cY:b2=true→∀dd os,Calls Tryz.prog 213 #[.agg #[.string nm,.int .i64 f,.int .i64 t],.int .i64 n] (grow (redrawn W0 dd) os) fun e w''=>e=.returned (.int .i64 rg)∧∃p:Regrown,w''=grow (redrawn W0 p.d) p.os:=fun hb2 dd os=>Calls.regrown_of (CY.out hb2 _)
 clear q0 q1 q2 d1 d7 dn c1 c7 cn;rcases b1 with _|_<;>rcases b2 with _|_<;>rcases b3 with _|_
 all_goals
  refine wp_region_quiet_below (by kernel_rfl) (by kernel_rfl) ?_
 all_goals
  repeat (first|go_big_quiet_step ((first|(go_at_call 212;exact cI _ _)|(go_at_call 213;exact cY (by trivial) _ _)))|quiet_step ((first|(go_at_call 212;exact cI _ _)|(go_at_call 213;exact cY (by trivial) _ _))))
 all_goals
  refine wpQuiet_nil ?_
  intro w3 hw3
  obtain⟨⟨dq,osq⟩,hw3⟩:=hw3
  have v:Up W0 w3:=by rw[hw3];exact below_regrown _ _ _
  replace u:=u.trans v;clear hw3 Q0 Q1 Q2 Y1 Y7 Yn cI cY v e1 e3;go_wp2;go_ret;exact⟨rfl,u⟩
theorem holds_0(A:Option Addr)(l:List Nm)(ca:Nat)(nu mo fe re wk sy:Int)(kg:ByteArray)(n:Int)(w:World)(h0:0≤n)(h1:n≤730499) :
 Calls Tryz.prog 166 #[.slice A l.length ca,.agg #[.int .i64 0,.int .i64 nu,.int .i64 mo,.int .i64 fe,.int .i64 re,.int .i64 wk,.int .i64 sy,.string kg],.int .i64 n] w fun e w'=>e=.returned (.bool (hdB l ⟨0,nu,mo,fe,re,wk,sy,kg⟩ n))∧Up w w':=by
 have hyb:=yOf_bd h0 h1
 obtain⟨b1,e1⟩:∃z,(dM n==mo)=z:=⟨_,rfl⟩
 obtain⟨b2,e2⟩:∃z,(dD n==nu)=z:=⟨_,rfl⟩
 have HE:=qh (show hdB l ⟨0,nu,mo,fe,re,wk,sy,kg⟩ n=(b1 && b2) by rw[clB_0,← e1,← e2];rfl)
 have CO:=qh (fun wx=>dateOf_any n wx h0 h1)
 have u:Up w ((w.alloc (.cells #[.int .i64 0,.int .i64 nu,.int .i64 mo,.int .i64 fe,.int .i64 re,.int .i64 wk,.int .i64 sy,.string kg] 209)).alloc (.cells #[.int .i64 n] 2)):=(Up.alloc w _).allocs _
 have hC:=(Bx.new w #[.int .i64 0,.int .i64 nu,.int .i64 mo,.int .i64 fe,.int .i64 re,.int .i64 wk,.int .i64 sy,.string kg] 209).up (Up.alloc _ (.cells #[.int .i64 n] 2))
 have hN:Bx ((w.alloc (.cells #[.int .i64 0,.int .i64 nu,.int .i64 mo,.int .i64 fe,.int .i64 re,.int .i64 wk,.int .i64 sy,.string kg] 209)).alloc (.cells #[.int .i64 n] 2)) (w.heap.size+1) [.int .i64 n]:=by
  have:=Bx.new (w.alloc (.cells #[.int .i64 0,.int .i64 nu,.int .i64 mo,.int .i64 fe,.int .i64 re,.int .i64 wk,.int .i64 sy,.string kg] 209)) #[.int .i64 n] 2
  simpa using this
 go_enter Tryz.func166,Tryz.ntmps166
 go_wp2_with fail
 generalize (w.alloc (.cells #[.int .i64 0,.int .i64 nu,.int .i64 mo,.int .i64 fe,.int .i64 re,.int .i64 wk,.int .i64 sy,.string kg] 209)).alloc (.cells #[.int .i64 n] 2)=W0 at *
 obtain⟨c0,c1,c2,c3,c4,c5,c6,c7⟩:=hC.c8
 obtain⟨n0,-⟩:=hN 0 _ rfl
 clear c0 c1 c2 c3 c4 c5 c6 c7 n0;refine(CO.out _).mono ?_
 rintro e w1 ⟨rfl,v⟩
 replace hC:=(hC.up v).up (Up.alloc w1 (.cells #[.int .i64 (yOf n),.int .i64 (dM n),.int .i64 (dD n)] 265))
 replace u:=(u.trans v).allocs (.cells #[.int .i64 (yOf n),.int .i64 (dM n),.int .i64 (dD n)] 265)
 clear v CO;obtain⟨c0,c1,c2,c3,c4,c5,c6,c7⟩:=hC.c8
 rcases b1 with _|_<;>rcases b2 with _|_
 all_goals
  go_wp2;go_ret;exact⟨ret_bool HE.out.symm,u⟩
theorem holds_1(A:Option Addr)(l:List Nm)(ca:Nat)(nu mo fe re wk sy:Int)(kg:ByteArray)(n:Int)(w:World)(h0:0≤n)(h1:n≤730499)(hf:0≤fe)(hf2:fe≤19)(hre:0≤re)(hre2:re≤4)(hwk:0≤wk)(hwk2:wk≤6) :
 Calls Tryz.prog 166 #[.slice A l.length ca,.agg #[.int .i64 1,.int .i64 nu,.int .i64 mo,.int .i64 fe,.int .i64 re,.int .i64 wk,.int .i64 sy,.string kg],.int .i64 n] w fun e w'=>e=.returned (.bool (hdB l ⟨1,nu,mo,fe,re,wk,sy,kg⟩ n))∧Up w w':=by
 have hyb:=yOf_bd h0 h1
 have HE:=qh (clB_1 (nu:=nu) (mo:=mo) (fe:=fe) (re:=re) (wk:=wk) (sy:=sy) (kg:=kg) (n:=n) l)
 have CO:=qh (fun wx=>dateOf_any n wx h0 h1)
 have hfd:=run_date0 (yOf n) (dM n) (dD n)
 have u:Up w ((w.alloc (.cells #[.int .i64 1,.int .i64 nu,.int .i64 mo,.int .i64 fe,.int .i64 re,.int .i64 wk,.int .i64 sy,.string kg] 209)).alloc (.cells #[.int .i64 n] 2)):=(Up.alloc w _).allocs _
 have hC:=(Bx.new w #[.int .i64 1,.int .i64 nu,.int .i64 mo,.int .i64 fe,.int .i64 re,.int .i64 wk,.int .i64 sy,.string kg] 209).up (Up.alloc _ (.cells #[.int .i64 n] 2))
 have hN:Bx ((w.alloc (.cells #[.int .i64 1,.int .i64 nu,.int .i64 mo,.int .i64 fe,.int .i64 re,.int .i64 wk,.int .i64 sy,.string kg] 209)).alloc (.cells #[.int .i64 n] 2)) (w.heap.size+1) [.int .i64 n]:=by
  have:=Bx.new (w.alloc (.cells #[.int .i64 1,.int .i64 nu,.int .i64 mo,.int .i64 fe,.int .i64 re,.int .i64 wk,.int .i64 sy,.string kg] 209)) #[.int .i64 n] 2
  simpa using this
 go_enter Tryz.func166,Tryz.ntmps166
 go_wp2_with fail
 generalize (w.alloc (.cells #[.int .i64 1,.int .i64 nu,.int .i64 mo,.int .i64 fe,.int .i64 re,.int .i64 wk,.int .i64 sy,.string kg] 209)).alloc (.cells #[.int .i64 n] 2)=W0 at *
 obtain⟨c0,c1,c2,c3,c4,c5,c6,c7⟩:=hC.c8
 obtain⟨n0,-⟩:=hN 0 _ rfl
 clear c0 c1 c2 c3 c4 c5 c6 c7 n0;refine(CO.out _).mono ?_
 rintro e w1 ⟨rfl,v⟩
 replace u:=u.trans v;replace hC:=hC.up v;replace hN:=hN.up v;clear v CO;have q1:1≤max 1 (yOf n-1)∧max 1 (yOf n-1)≤yOf n∧yOf n-1≤max 1 (yOf n-1):=by omega
 go_wp2_with fail
 obtain⟨m0,hm0⟩:∃z,z=max 1 (yOf n-1):=⟨_,rfl⟩
 rw[← hm0]at q1 ⊢
 have q2:m0≤1∨m0≤yOf n-1:=by omega
 clear hm0 hfd;go_loopw [9] (fun tv wr=>∃y:Int,m0≤y∧y≤2001∧y≤yOf n+2∧tv=.int .i64 y∧Hid (∀z,yOf n-1≤z→1≤z→z<y→feAt ⟨1,nu,mo,fe,re,wk,sy,kg⟩ n z=false)∧Bx wr w.heap.size [.int .i64 1,.int .i64 nu,.int .i64 mo,.int .i64 fe,.int .i64 re,.int .i64 wk,.int .i64 sy,.string kg]∧Bx wr (w.heap.size+1) [.int .i64 n]∧Up w wr) (fun tv _=>(2002-intOf tv).toNat)
 case atStart=>exact⟨m0,Int.le_refl _,by omega,by omega,rfl,qh (fun z a b c=>by exfalso;have:=q1.2.2;omega),hC,hN,u⟩
 case round =>
  clear hC hN u;obtain⟨y,hy0,hy1,hy2,rfl,hb,hC,hN,u⟩:=hrel
  by_cases hlt:y≤min 2000 (yOf n+1)
  ·have hdl:decide (y≤min 2000 (yOf n+1))=true:=by simpa using hlt
   have y1:1≤y∧y≤2000∧y≤yOf n+1:=by omega
   clear hlt;have c:=fun wx=>relatedDay_any fe re wk y wx hf hf2 hre hre2 hwk hwk2 y1.1 y1.2.1
   obtain⟨r,hr⟩:∃z,z=rlN fe re wk y:=⟨_,rfl⟩
   have HF:=qh (show feAt ⟨1,nu,mo,fe,re,wk,sy,kg⟩ n y=(r==n) by rw[hr];rfl)
   simp only[← hr]at c
   have CR:=qh c
   clear hr c;obtain⟨b,hbn⟩:∃z,(r==n)=z:=⟨_,rfl⟩
   rw[hbn]at HF;obtain⟨c0,c1,c2,c3,c4,c5,c6,c7⟩:=hC.c8
   obtain⟨n0,-⟩:=hN 0 _ rfl
   have Y3:=cell_regrown c3
   have Y4:=cell_regrown c4
   have Y5:=cell_regrown c5
   have Yn:=cell_regrown n0
   have cN:∀dd os,Calls Tryz.prog 209 #[.int .i64 fe,.int .i64 re,.int .i64 wk,.int .i64 y] (grow (redrawn wr dd) os) fun e w''=>e=.returned (.int .i64 r)∧∃p:Regrown,w''=grow (redrawn wr p.d) p.os:=fun dd os=>Calls.regrown_of (CR.out _)
   clear c0 c1 c2 c3 c4 c5 c6 c7 n0;go_wp2_with fail
   refine wp_region_quiet_below (by kernel_rfl) (by kernel_rfl) ?_
   repeat (first|go_big_quiet_step ((go_at_call 209;exact cN _ _))|quiet_step ((go_at_call 209;exact cN _ _)))
   refine wpQuiet_nil ?_
   intro w3 hw3
   obtain⟨⟨dq,osq⟩,hw3⟩:=hw3
   have v:Up wr w3:=by rw[hw3];exact below_regrown _ _ _
   replace u:=u.trans v;replace hC:=hC.up v;replace hN:=hN.up v;clear hw3 Y3 Y4 Y5 Yn cN v;rcases b with _|_
   ·go_wp2
    go_roundw
    case rel=>exact⟨y+1,by omega,by omega,by omega,rfl,qh (fun z a b c=>by
     rcases Int.lt_or_le z y with h|h
     ·exact hb.out z a b h
     ·obtain rfl:z=y:=by omega
      exact HF.out),hC,hN,u⟩
    case measure=>simp[intOf];omega
   ·have HH:=qh (feHd_yes (c:=⟨1,nu,mo,fe,re,wk,sy,kg⟩) (n:=n) (y:=y) (by omega) y1.2.2 y1.1 y1.2.1 HF.out)
    go_wp2;go_ret;exact⟨ret_bool (by rw[HE.out,HH.out]),u⟩
  ·have hdl:decide (y≤min 2000 (yOf n+1))=false:=by simpa using hlt
   have HH:=qh (feHd_no (c:=⟨1,nu,mo,fe,re,wk,sy,kg⟩) (n:=n) (fun z a b c d=>hb.out z a c (by omega)))
   clear hlt;go_wp2;go_ret;exact⟨ret_bool (by rw[HE.out,HH.out]),u⟩
theorem holds_2(A:Option Addr)(l:List Nm)(ca:Nat)(nu mo fe re wk sy:Int)(kg:ByteArray)(n:Int)(w:World)(h0:0≤n)(h1:n≤730499)(lo hi:Nat)(hr:RdNm w lo hi A l)(hhi:hi≤w.heap.size)(hn:l.length≤2000000)(hsp:∀d∈l,spanB d.fr d.to_=true) :
 Calls Tryz.prog 166 #[.slice A l.length ca,.agg #[.int .i64 2,.int .i64 nu,.int .i64 mo,.int .i64 fe,.int .i64 re,.int .i64 wk,.int .i64 sy,.string kg],.int .i64 n] w fun e w'=>e=.returned (.bool (hdB l ⟨2,nu,mo,fe,re,wk,sy,kg⟩ n))∧Up w w':=by
 have hyb:=yOf_bd h0 h1
 have HE:=qh (clB_2 (nu:=nu) (mo:=mo) (fe:=fe) (re:=re) (wk:=wk) (sy:=sy) (kg:=kg) (n:=n) l)
 have u:Up w ((w.alloc (.cells #[.int .i64 2,.int .i64 nu,.int .i64 mo,.int .i64 fe,.int .i64 re,.int .i64 wk,.int .i64 sy,.string kg] 209)).alloc (.cells #[.int .i64 n] 2)):=(Up.alloc w _).allocs _
 have hC:=(Bx.new w #[.int .i64 2,.int .i64 nu,.int .i64 mo,.int .i64 fe,.int .i64 re,.int .i64 wk,.int .i64 sy,.string kg] 209).up (Up.alloc _ (.cells #[.int .i64 n] 2))
 have hN:Bx ((w.alloc (.cells #[.int .i64 2,.int .i64 nu,.int .i64 mo,.int .i64 fe,.int .i64 re,.int .i64 wk,.int .i64 sy,.string kg] 209)).alloc (.cells #[.int .i64 n] 2)) (w.heap.size+1) [.int .i64 n]:=by
  have:=Bx.new (w.alloc (.cells #[.int .i64 2,.int .i64 nu,.int .i64 mo,.int .i64 fe,.int .i64 re,.int .i64 wk,.int .i64 sy,.string kg] 209)) #[.int .i64 n] 2
  simpa using this
 go_enter Tryz.func166,Tryz.ntmps166
 go_wp2_with fail
 generalize (w.alloc (.cells #[.int .i64 2,.int .i64 nu,.int .i64 mo,.int .i64 fe,.int .i64 re,.int .i64 wk,.int .i64 sy,.string kg] 209)).alloc (.cells #[.int .i64 n] 2)=W0 at *
 obtain⟨c0,c1,c2,c3,c4,c5,c6,c7⟩:=hC.c8
 obtain⟨n0,-⟩:=hN 0 _ rfl
 have HF:=qh (containsFuncRe_any A l ca lo hi 211 #[.pointer (some ⟨w.heap.size,0,none⟩),.pointer (some ⟨w.heap.size+1,0,none⟩)] (rgHd ⟨2,nu,mo,fe,re,wk,sy,kg⟩ n) W0 (hr.up u hhi) (Nat.le_trans hhi u.size) hn (fun _ _=>by kernel_rfl) (fun d hd w1 hu=>holds1_any d n nu kg _ _ w1 (by have:=hsp d hd;simp[spanB,dayB,inB]at this;omega) h1 (hu.cell c1) (hu.cell c7) (hu.cell n0)))
 clear c0 c1 c2 c3 c4 c5 c6 c7 n0 hC hN hr hsp;go_wp2_with (go_at_call 210;refine HF.out.mono ?_;rintro e w' ⟨rfl,v⟩)
 go_ret;exact⟨ret_bool HE.out.symm,u.trans v⟩
theorem holds_3(A:Option Addr)(l:List Nm)(ca:Nat)(nu mo fe re wk sy:Int)(kg:ByteArray)(n:Int)(w:World)(h0:0≤n)(h1:n≤730499)(hs:0≤sy)(hs2:sy≤6) :
 Calls Tryz.prog 166 #[.slice A l.length ca,.agg #[.int .i64 3,.int .i64 nu,.int .i64 mo,.int .i64 fe,.int .i64 re,.int .i64 wk,.int .i64 sy,.string kg],.int .i64 n] w fun e w'=>e=.returned (.bool (hdB l ⟨3,nu,mo,fe,re,wk,sy,kg⟩ n))∧Up w w':=by
 have hyb:=yOf_bd h0 h1
 obtain⟨b1,e1⟩:∃z,yrT sy n=z:=⟨_,rfl⟩
 obtain⟨V,eV⟩:∃z,yrV sy n=z:=⟨_,rfl⟩
 have c:=fun wx=>yearOn_any sy n wx hs hs2 h0 h1
 rw[e1,eV]at c;have CY:=qh c
 clear c;obtain⟨b2,e2⟩:∃z,(V==nu)=z:=⟨_,rfl⟩
 have HE:=qh (show hdB l ⟨3,nu,mo,fe,re,wk,sy,kg⟩ n=(b1 && b2) by rw[clB_3,yr_dec,e1,eV,← e2];rfl)
 clear e1 eV;have u:Up w ((w.alloc (.cells #[.int .i64 3,.int .i64 nu,.int .i64 mo,.int .i64 fe,.int .i64 re,.int .i64 wk,.int .i64 sy,.string kg] 209)).alloc (.cells #[.int .i64 n] 2)):=(Up.alloc w _).allocs _
 have hC:=(Bx.new w #[.int .i64 3,.int .i64 nu,.int .i64 mo,.int .i64 fe,.int .i64 re,.int .i64 wk,.int .i64 sy,.string kg] 209).up (Up.alloc _ (.cells #[.int .i64 n] 2))
 have hN:Bx ((w.alloc (.cells #[.int .i64 3,.int .i64 nu,.int .i64 mo,.int .i64 fe,.int .i64 re,.int .i64 wk,.int .i64 sy,.string kg] 209)).alloc (.cells #[.int .i64 n] 2)) (w.heap.size+1) [.int .i64 n]:=by
  have:=Bx.new (w.alloc (.cells #[.int .i64 3,.int .i64 nu,.int .i64 mo,.int .i64 fe,.int .i64 re,.int .i64 wk,.int .i64 sy,.string kg] 209)) #[.int .i64 n] 2
  simpa using this
 go_enter Tryz.func166,Tryz.ntmps166
 go_wp2_with fail
 generalize (w.alloc (.cells #[.int .i64 3,.int .i64 nu,.int .i64 mo,.int .i64 fe,.int .i64 re,.int .i64 wk,.int .i64 sy,.string kg] 209)).alloc (.cells #[.int .i64 n] 2)=W0 at *
 obtain⟨c0,c1,c2,c3,c4,c5,c6,c7⟩:=hC.c8
 obtain⟨n0,-⟩:=hN 0 _ rfl
 clear c0 c1 c2 c3 c4 c5 c6 c7 n0;refine(CY.out _).mono ?_
 rintro e w1 ⟨rfl,v⟩
 replace hC:=hC.up v;replace u:=u.trans v;clear v;obtain⟨c0,c1,c2,c3,c4,c5,c6,c7⟩:=hC.c8
 rcases b1 with _|_<;>rcases b2 with _|_
 all_goals
  go_wp2;go_ret;exact⟨ret_bool HE.out.symm,u⟩
theorem holds_4(A:Option Addr)(l:List Nm)(ca:Nat)(nu mo fe re wk sy:Int)(kg:ByteArray)(n:Int)(w:World)(h0:0≤n)(h1:n≤730499)(hs:0≤sy)(hs2:sy≤2) :
 Calls Tryz.prog 166 #[.slice A l.length ca,.agg #[.int .i64 4,.int .i64 nu,.int .i64 mo,.int .i64 fe,.int .i64 re,.int .i64 wk,.int .i64 sy,.string kg],.int .i64 n] w fun e w'=>e=.returned (.bool (hdB l ⟨4,nu,mo,fe,re,wk,sy,kg⟩ n))∧Up w w':=by
 have hyb:=yOf_bd h0 h1
 have HE:=qh (clB_4 (nu:=nu) (mo:=mo) (fe:=fe) (re:=re) (wk:=wk) (sy:=sy) (kg:=kg) (n:=n) l)
 have u:Up w ((w.alloc (.cells #[.int .i64 4,.int .i64 nu,.int .i64 mo,.int .i64 fe,.int .i64 re,.int .i64 wk,.int .i64 sy,.string kg] 209)).alloc (.cells #[.int .i64 n] 2)):=(Up.alloc w _).allocs _
 have hC:=(Bx.new w #[.int .i64 4,.int .i64 nu,.int .i64 mo,.int .i64 fe,.int .i64 re,.int .i64 wk,.int .i64 sy,.string kg] 209).up (Up.alloc _ (.cells #[.int .i64 n] 2))
 have hN:Bx ((w.alloc (.cells #[.int .i64 4,.int .i64 nu,.int .i64 mo,.int .i64 fe,.int .i64 re,.int .i64 wk,.int .i64 sy,.string kg] 209)).alloc (.cells #[.int .i64 n] 2)) (w.heap.size+1) [.int .i64 n]:=by
  have:=Bx.new (w.alloc (.cells #[.int .i64 4,.int .i64 nu,.int .i64 mo,.int .i64 fe,.int .i64 re,.int .i64 wk,.int .i64 sy,.string kg] 209)) #[.int .i64 n] 2
  simpa using this
 go_enter Tryz.func166,Tryz.ntmps166
 go_wp2_with fail
 generalize (w.alloc (.cells #[.int .i64 4,.int .i64 nu,.int .i64 mo,.int .i64 fe,.int .i64 re,.int .i64 wk,.int .i64 sy,.string kg] 209)).alloc (.cells #[.int .i64 n] 2)=W0 at *
 obtain⟨c0,c1,c2,c3,c4,c5,c6,c7⟩:=hC.c8
 obtain⟨n0,-⟩:=hN 0 _ rfl
 have Y1:=cell_regrown c1
 have Y6:=cell_regrown c6
 have Yn:=cell_regrown n0
 have cN:∀dd os,Calls Tryz.prog 215 #[.int .i64 sy,.int .i64 n] (grow (redrawn W0 dd) os) fun e w''=>e=.returned (.int .i64 (inN sy n))∧∃p:Regrown,w''=grow (redrawn W0 p.d) p.os:=fun dd os=>Calls.regrown_of (indictionOn_any sy n _ hs hs2 h0 h1)
 clear c0 c1 c2 c3 c4 c5 c6 c7 n0;go_wp2_with fail
 refine wp_region_quiet_below (by kernel_rfl) (by kernel_rfl) ?_
 repeat (first|go_big_quiet_step ((go_at_call 215;exact cN _ _))|quiet_step ((go_at_call 215;exact cN _ _)))
 refine wpQuiet_nil ?_
 intro w3 hw3
 obtain⟨⟨dq,osq⟩,hw3⟩:=hw3
 have v:Up W0 w3:=by rw[hw3];exact below_regrown _ _ _
 clear hw3 Y1 Y6 Yn cN;go_wp2;go_ret;exact⟨ret_bool (by rw[HE.out];rfl),u.trans v⟩
theorem holds_5(A:Option Addr)(l:List Nm)(ca:Nat)(nu mo fe re wk sy:Int)(kg:ByteArray)(n:Int)(w:World)(h0:0≤n)(h1:n≤730499) :
 Calls Tryz.prog 166 #[.slice A l.length ca,.agg #[.int .i64 5,.int .i64 nu,.int .i64 mo,.int .i64 fe,.int .i64 re,.int .i64 wk,.int .i64 sy,.string kg],.int .i64 n] w fun e w'=>e=.returned (.bool (hdB l ⟨5,nu,mo,fe,re,wk,sy,kg⟩ n))∧Up w w':=by
 have hyb:=yOf_bd h0 h1
 have HE:=qh (clB_5 (nu:=nu) (mo:=mo) (fe:=fe) (re:=re) (wk:=wk) (sy:=sy) (kg:=kg) (n:=n) l)
 have u:Up w ((w.alloc (.cells #[.int .i64 5,.int .i64 nu,.int .i64 mo,.int .i64 fe,.int .i64 re,.int .i64 wk,.int .i64 sy,.string kg] 209)).alloc (.cells #[.int .i64 n] 2)):=(Up.alloc w _).allocs _
 have hC:=(Bx.new w #[.int .i64 5,.int .i64 nu,.int .i64 mo,.int .i64 fe,.int .i64 re,.int .i64 wk,.int .i64 sy,.string kg] 209).up (Up.alloc _ (.cells #[.int .i64 n] 2))
 have hN:Bx ((w.alloc (.cells #[.int .i64 5,.int .i64 nu,.int .i64 mo,.int .i64 fe,.int .i64 re,.int .i64 wk,.int .i64 sy,.string kg] 209)).alloc (.cells #[.int .i64 n] 2)) (w.heap.size+1) [.int .i64 n]:=by
  have:=Bx.new (w.alloc (.cells #[.int .i64 5,.int .i64 nu,.int .i64 mo,.int .i64 fe,.int .i64 re,.int .i64 wk,.int .i64 sy,.string kg] 209)) #[.int .i64 n] 2
  simpa using this
 go_enter Tryz.func166,Tryz.ntmps166
 go_wp2_with fail
 generalize (w.alloc (.cells #[.int .i64 5,.int .i64 nu,.int .i64 mo,.int .i64 fe,.int .i64 re,.int .i64 wk,.int .i64 sy,.string kg] 209)).alloc (.cells #[.int .i64 n] 2)=W0 at *
 obtain⟨c0,c1,c2,c3,c4,c5,c6,c7⟩:=hC.c8
 obtain⟨n0,-⟩:=hN 0 _ rfl
 have Y5:=cell_regrown c5
 have Yn:=cell_regrown n0
 have cN:∀dd os,Calls Tryz.prog 216 #[.int .i64 n] (grow (redrawn W0 dd) os) fun e w''=>e=.returned (.int .i64 (wkN n))∧∃p:Regrown,w''=grow (redrawn W0 p.d) p.os:=fun dd os=>Calls.regrown_of ((weekdayOf_any n _ h0 (by omega)).mono fun e w' ⟨h,h2⟩=>⟨h,by rw[← h2];exact Up.refl _⟩)
 clear c0 c1 c2 c3 c4 c5 c6 c7 n0;go_wp2_with fail
 refine wp_region_quiet_below (by kernel_rfl) (by kernel_rfl) ?_
 repeat (first|go_big_quiet_step ((go_at_call 216;exact cN _ _))|quiet_step ((go_at_call 216;exact cN _ _)))
 refine wpQuiet_nil ?_
 intro w3 hw3
 obtain⟨⟨dq,osq⟩,hw3⟩:=hw3
 have v:Up W0 w3:=by rw[hw3];exact below_regrown _ _ _
 clear hw3 Y5 Yn cN;go_wp2;go_ret;exact⟨ret_bool (by rw[HE.out];rfl),u.trans v⟩
theorem holds_any(A:Option Addr)(l:List Nm)(ca lo hi:Nat)(c:Cl)(n:Int)(w:World)(hr:RdNm w lo hi A l)(hhi:hi≤w.heap.size)(hn:l.length≤2000000)(hsp:∀d∈l,spanB d.fr d.to_=true)(hc:clB c=true)(h0:0≤n)(h1:n≤730499) :
 Calls Tryz.prog 166 #[.slice A l.length ca,c.val,.int .i64 n] w fun e w'=>e=.returned (.bool (hdB l c n))∧Up w w':=by
 obtain⟨ki,nu,mo,fe,re,wk,sy,kg⟩:=c
 by_cases k0:ki=0
 ·subst k0;exact holds_0 A l ca nu mo fe re wk sy kg n w h0 h1
 by_cases k1:ki=1
 ·subst k1
  have hb:0≤fe∧fe≤19∧0≤re∧re≤4∧0≤wk∧wk≤6:=by
   simp[clB,rlB,inB]at hc
   omega
  exact holds_1 A l ca nu mo fe re wk sy kg n w h0 h1 hb.1 hb.2.1 hb.2.2.1 hb.2.2.2.1 hb.2.2.2.2.1 hb.2.2.2.2.2
 by_cases k2:ki=2
 ·subst k2;exact holds_2 A l ca nu mo fe re wk sy kg n w h0 h1 lo hi hr hhi hn hsp
 by_cases k3:ki=3
 ·subst k3
  have hb:0≤sy∧sy≤6:=by
   simp[clB,inB]at hc
   omega
  exact holds_3 A l ca nu mo fe re wk sy kg n w h0 h1 hb.1 hb.2
 by_cases k4:ki=4
 ·subst k4
  have hb:0≤sy∧sy≤2:=by
   simp[clB,inB]at hc
   omega
  exact holds_4 A l ca nu mo fe re wk sy kg n w h0 h1 hb.1 hb.2
 by_cases k5:ki=5
 ·subst k5;exact holds_5 A l ca nu mo fe re wk sy kg n w h0 h1
 exfalso
 simp[clB,k0,k1,k2,k3,k4,k5]at hc
theorem fit2_any(A:Option Addr)(l:List Nm)(ca lo hi:Nat)(c:Cl)(n:Int)(bc bn:Nat)(w:World)(hr:RdNm w lo hi A l)(hhi:hi≤w.heap.size)(hn:l.length≤2000000)(hsp:∀d∈l,spanB d.fr d.to_=true)(hc:clB c=true)(h0:0≤n)(h1:n≤730499)
 (c0:w.cell? ⟨bc,0,none⟩=some (.slice A l.length ca)) (n0:w.cell? ⟨bn,0,none⟩=some (.int .i64 n)) :
 Calls Tryz.prog 165 #[c.val,.pointer (some ⟨bc,0,none⟩),.pointer (some ⟨bn,0,none⟩)] w fun e w'=>e=.returned (.bool (!hdB l c n))∧Up w w':=by
 have u:=Up.alloc w (.cells #[.int .i64 c.ki,.int .i64 c.nu,.int .i64 c.mo,.int .i64 c.fe,.int .i64 c.re_,.int .i64 c.wk,.int .i64 c.sy,.string c.kg] 209)
 have hB:=Bx.new w #[.int .i64 c.ki,.int .i64 c.nu,.int .i64 c.mo,.int .i64 c.fe,.int .i64 c.re_,.int .i64 c.wk,.int .i64 c.sy,.string c.kg] 209
 have HC:=qh (holds_any A l ca lo hi c n _ (hr.up u hhi) (Nat.le_trans hhi u.size) hn hsp hc h0 h1)
 have d0:=u.cell c0
 have dn:=u.cell n0
 clear hr hsp hc c0 n0;obtain⟨ki,nu,mo,fe,re,wk,sy,kg⟩:=c
 simp only[]at *;go_enter Tryz.func165,Tryz.ntmps165
 go_wp2_with fail
 generalize w.alloc (.cells #[.int .i64 ki,.int .i64 nu,.int .i64 mo,.int .i64 fe,.int .i64 re,.int .i64 wk,.int .i64 sy,.string kg] 209)=W0 at *
 obtain⟨e0,e1,e2,e3,e4,e5,e6,e7⟩:=hB.c8
 go_wp2_with (go_at_call 166;refine HC.out.mono ?_;rintro e w' ⟨rfl,v⟩)
 go_ret;exact⟨rfl,u.trans v⟩
theorem any_all{α:Type}(l:List α)(p:α→Bool):(!l.any fun x=>!p x)=l.all p:=by
 induction l with
 | nil=>rfl
 | cons x l ih=>simp[List.any_cons,List.all_cons,← ih,Bool.not_or]
theorem fit1_any(A B:Option Addr)(l:List Nm)(m:List Cl)(ca cb lo hi lo' hi':Nat)(n:Int)(bc bl:Nat)(w:World)(hr:RdNm w lo hi A l)(hhi:hi≤w.heap.size)(hn:l.length≤2000000)(hsp:∀d∈l,spanB d.fr d.to_=true)
 (hr':RdCl w lo' hi' B m) (hhi':hi'≤w.heap.size) (hm:m.length≤2000000) (hcl:∀c∈m,clB c=true) (h0:0≤n) (h1:n≤730499)
 (c0:w.cell? ⟨bc,0,none⟩=some (.slice A l.length ca)) (l0:w.cell? ⟨bl,0,none⟩=some (.slice B m.length cb)) :
 Calls Tryz.prog 163 #[.int .i64 n,.pointer (some ⟨bl,0,none⟩),.pointer (some ⟨bc,0,none⟩)] w fun e w'=>e=.returned (.bool (ftB l m n))∧Up w w':=by
 have u:=Up.alloc w (.cells #[.int .i64 n] 2)
 have hB:=Bx.new w #[.int .i64 n] 2
 have d0:=u.cell c0
 have dl:=u.cell l0
 have HE:=qh (any_all m (fun c=>hdB l c n))
 have HC:=qh (containsFuncCl_any B m cb lo' hi' 165 #[.pointer (some ⟨bc,0,none⟩),.pointer (some ⟨w.heap.size,0,none⟩)] (fun c=>!hdB l c n) _ (hr'.up u hhi') (Nat.le_trans hhi' u.size) hm (fun _ _=>by kernel_rfl) (fun c hcm w1 hu=>fit2_any A l ca lo hi c n _ _ w1 ((hr.up u hhi).up hu (Nat.le_trans hhi u.size)) (Nat.le_trans (Nat.le_trans hhi u.size) hu.size) hn hsp (hcl c hcm) h0 h1 (hu.cell d0) (hu.cell (hB 0 _ rfl).1)))
 clear hr hsp hr' hcl c0 l0;go_enter Tryz.func163,Tryz.ntmps163
 go_wp2_with (go_at_call 164;refine HC.out.mono ?_;rintro e w' ⟨rfl,v⟩)
 go_ret;exact⟨ret_bool HE.out,u.trans v⟩
def AnsDay(w:World)(f:FuncId)(caps:Array Value)(p:Int→Bool)(a b:Int):Prop :=
 ∀n,a≤n→n≤b→∀w1,Up w w1→Calls Tryz.prog f (#[.int .i64 n]++caps) w1 fun e w2=>e=.returned (.bool (p n))∧Up w1 w2
theorem daysFor_any(f:FuncId)(caps:Array Value)(p:Int→Bool)(fr to_:Int)(w:World)(he:∀(args:Array Value) (w:World),(callFunc f args).run Tryz.prog w=.ok (.enter f args) w)(hf:AnsDay w f caps p fr to_)(h0:0≤fr)(h1:to_≤730499)(hft:fr≤to_+1) :
 Calls Tryz.prog 162 #[.int .i64 fr,.int .i64 to_,.func (.func f) #[] caps] w fun e w'=>∃v,e=.returned v∧w'.ownsRow w.heap.size 84 2 v (daysF p fr (to_+1-fr).toNat).length ((daysF p fr (to_+1-fr).toNat).flatMap spC)∧Up w w':=by
 obtain⟨i0,hi0,hz0,hz1,hz2⟩:=info_parts infoSp
 have hent:∀(args:Array Value) (w:World),(callFunc f args).run Tryz.prog w=.ok (.enter f args) w:=he
 have CF:=qh (fun(n:Int) (wx:World) (v:Up w wx) (a:fr≤n) (b:n≤to_)=>hf n a b wx v)
 have HFS:=qh (fun(k:Nat) (e:fr+(k:Int)=to_+1)=>show daysF p fr k=daysF p fr (to_+1-fr).toNat by rw[show(to_+1-fr).toNat=k by omega])
 obtain⟨D,hD⟩:∃z,z=daysF p fr (to_+1-fr).toNat:=⟨_,rfl⟩
 rw[← hD]at HFS ⊢
 clear hD hf he;go_enter Tryz.func162,Tryz.ntmps162
 go_wp2_with fail
 have hown0:=World.ownsRow_lit (base:=w.heap.size) (e:=84) (size:=2) w #[] 0 (Nat.le_refl _) (by simp[maxLen]) rfl
 have hup0:=(Up.refl w).allocs (.cells #[] 84)
 obtain⟨v0,hv0⟩:∃v,v=Value.slice (some ⟨w.heap.size,0,none⟩) 0 0:=⟨_,rfl⟩
 rw[← hv0]at hown0 ⊢
 generalize w.alloc (.cells #[] 84)=w2 at *
 clear hv0;go_loopw [7,8,9] (fun o tn la wi=>∃k:Nat,∃n:Int,∃O:List Sp,n=fr+k∧n≤to_+1∧tn=.int .i64 n∧Hid (O=daysF p fr k)∧wi.ownsRow w.heap.size 84 2 o O.length (O.flatMap spC)∧Up w wi) (fun _ tn _ _=>(to_+1-intOf tn).toNat)
 case atStart=>exact⟨0,fr,[],by omega,by omega,rfl,qh rfl,hown0,hup0⟩
 case round =>
  clear hown0 hup0;obtain⟨k,n,O,hnk,hnt,rfl,HO,hown,hui⟩:=hrel
  have hOn:O.length≤k:=by rw[HO.out];exact daysF_len _ _ _
  have hn0:0≤n∧n≤730500:=by omega
  by_cases hlt:n≤to_
  ·have HOB:=qh (show ∀s∈O,0≤s.1∧s.1≤s.2∧s.2≤730499 by rw[HO.out];exact daysF_bd p h0 k (by omega))
   have cF:=fun wx v=>CF.out n wx v (by omega) (by omega)
   have HS:=qh (show daysF p fr (k+1)=if p n=true then dstp O n else O by rw[daysF_s,← hnk,← HO.out])
   obtain⟨bb,hbb⟩:∃z,z=p n:=⟨_,rfl⟩
   simp only[← hbb]at cF
   rw[← hbb]at HS;have CN:=qh cF
   clear cF hbb;have hk1:k≤800000:=by omega
   have HNK:=qh hnk
   clear hnk;rcases bb with _|_
   ·go_wp2_with fail
    refine(CN.out _ hui).mono ?_
    rintro e w7 ⟨rfl,v⟩
    replace hown:=own_up hown v;replace hui:=hui.trans v;clear v;go_wp2;go_roundw
    case rel=>exact⟨k+1,n+1,O,by(have:=HNK.out;omega),by omega,rfl,qh HS.out.symm,hown,hui⟩
    case measure=>simp[intOf];omega
   ·go_wp2_with fail
    refine(CN.out _ hui).mono ?_
    rintro e w7 ⟨rfl,v⟩
    replace hown:=own_up hown v;replace hui:=hui.trans v;clear v;rcases List.eq_nil_or_concat O with rfl|⟨o',z,rfl⟩
    ·simp only[List.length_nil,List.flatMap_nil]at hown
     obtain⟨A',c',rfl,hc',hm',hA,-⟩:=own_form hown
     have n1:0+1≤maxLen:=by unfold maxLen;omega
     have n2:(0+1)*16≤140737488355328:=by omega
     have n3:w.heap.size≤(w7.alloc (.cells #[.int .i64 n,.int .i64 n] 84)).heap.size:=(hui.allocs _).size
     go_wp2_with ((at_builtin;refine wpList_append_own _ rfl _ _ 76 rfl w.heap.size 84 i0 _ 2 16 Tryz.underlying76 hi0 hz0 hz1 hz2 rfl (by decide) _ _ _ rfl (hown.alloc _) ⟨w7.heap.size,0,none⟩ 1 1 [.int .i64 n,.int .i64 n] rfl rfl (cell_two_newP _ _ _ _) (by simp[Value.oneCell']) n1 n2 n3 ?_))
     intro v' w4 hown' hgrow _
     have hu4:=(hui.allocs (.cells #[.int .i64 n,.int .i64 n] 84)).grown hgrow (fun k hk=>(hown.lt k hk).1)
     clear hgrow hown;have HO4:=qh hown'
     clear hown';go_wp2;go_roundw
     case rel=>exact⟨k+1,n+1,[(n,n)],by(have:=HNK.out;omega),by omega,rfl,qh (by rw[HS.out,if_pos trivial,dstp_nil]),by simpa[spC] using HO4.out,hu4⟩
     case measure=>simp[intOf];omega
    ·rw[List.concat_eq_append]at *
     obtain⟨zf,zt⟩:=z
     have hzb:=HOB.out (zf,zt) (by simp)
     simp only at hzb
     have hzget:(o'++[(zf,zt)])[o'.length]?=some (zf,zt):=by simp
     simp only[List.length_append,List.length_singleton]at hown hOn
     obtain⟨q,hq⟩:∃q,q=o'.length:=⟨_,rfl⟩
     rw[← hq]at hzget hown hOn;have HM:=qh hq
     clear hq;obtain⟨r,hrq⟩:∃r,r=q+1:=⟨_,rfl⟩
     rw[← hrq]at hown hOn;have hqr:q<r:=by omega
     have hidx:IntKind.i64.wrap ((r:Int)-1)=(q:Int):=by rw[IntWalk.i64_in _ (by omega)];omega
     have hr5:r≤800000:=by omega
     have hr6:1≤r:=by omega
     have HNM:=qh hrq
     clear hrq;obtain⟨A',c',rfl,hc',hm',hA,-⟩:=own_form hown
     obtain⟨g',rfl,hg1,hg2⟩:=hA (by omega)
     have r1:=(hown.cellAt (q*2+1) (by omega)).trans (flat_get spC 2 spC_len _ q _ hzget 1 _ rfl)
     clear hzget;obtain⟨b,hb⟩:∃z,(zt==n-1)=z:=⟨_,rfl⟩
     have HB:=qh (show dstp (o'++[(zf,zt)]) n=if b=true then o'++[(zf,n)] else o'++[(zf,zt)]++[(n,n)] by rw[dstp_snoc,← hb];simp)
     rcases b with _|_
     ·have n1:r+1≤maxLen:=by unfold maxLen;omega
      have n2:(r+1)*16≤140737488355328:=by omega
      have n3:w.heap.size≤(w7.alloc (.cells #[.int .i64 n,.int .i64 n] 84)).heap.size:=(hui.allocs _).size
      go_wp2_with ((at_builtin;refine wpList_append_own _ rfl _ _ 76 rfl w.heap.size 84 i0 _ 2 16 Tryz.underlying76 hi0 hz0 hz1 hz2 rfl (by decide) _ _ _ rfl (hown.alloc _) ⟨w7.heap.size,0,none⟩ 1 1 [.int .i64 n,.int .i64 n] rfl rfl (cell_two_newP _ _ _ _) (by simp[Value.oneCell']) n1 n2 n3 ?_))
      intro v' w4 hown' hgrow _
      have hu4:=(hui.allocs (.cells #[.int .i64 n,.int .i64 n] 84)).grown hgrow (fun k hk=>(hown.lt k hk).1)
      clear hgrow hown;have HO4:=qh hown'
      clear hown' r1;go_wp2;go_roundw
      case rel=>exact⟨k+1,n+1,o'++[(zf,zt)]++[(n,n)],by(have:=HNK.out;omega),by omega,rfl,qh (by rw[HS.out,if_pos trivial,HB.out];simp),by(have h4:=HO4.out;rw[HNM.out,HM.out]at h4;simpa[spC] using h4),hu4⟩
      case measure=>simp[intOf];omega
     ·have z1:=hown.frozenAt (q*2+1)
      have s1:=hown.stored (q*2+1) (.int .i64 n)
      have hset:=last_set (o:=o') (z:=(zf,zt)) (t:=n)
      rw[← HM.out]at hset;rw[hset]at s1;have SS:=qh (And.intro s1.1 (hui.grown s1.2 (fun k hk=>by simp at hk;omega)))
      clear s1 hset hown;go_wp2;go_roundw
      case rel=>exact⟨k+1,n+1,o'++[(zf,n)],by(have:=HNK.out;omega),by omega,rfl,qh (by rw[HS.out,if_pos trivial,HB.out];simp),by(rw[List.length_append,List.length_singleton,← HM.out,← HNM.out];exact SS.out.1),SS.out.2⟩
      case measure=>simp[intOf];omega
  ·have hfin:O=D:=by rw[HO.out];exact HFS.out k (by omega)
   clear hnk HO;subst hfin;go_wp2;go_ret;exact⟨_,rfl,hown,hui⟩
theorem fittingDays_any(A B:Option Addr)(l:List Nm)(m:List Cl)(ca cb lo hi lo' hi':Nat)(fr to_:Int)(w:World)(hr:RdNm w lo hi A l)(hhi:hi≤w.heap.size)(hn:l.length≤2000000)(hsp:∀d∈l,spanB d.fr d.to_=true)
 (hr':RdCl w lo' hi' B m) (hhi':hi'≤w.heap.size) (hm:m.length≤2000000) (hcl:∀c∈m,clB c=true) (h0:0≤fr) (h1:to_≤730499) (hft:fr≤to_) :
 Calls Tryz.prog 115 #[.agg #[.slice A l.length ca,.int .i64 fr,.int .i64 to_],.slice B m.length cb] w fun e w'=>∃v,e=.returned v∧w'.ownsRow w.heap.size 84 2 v (fitS l m fr to_).length ((fitS l m fr to_).flatMap spC)∧Up w w':=by
 have u:Up w ((w.alloc (.cells #[.slice A l.length ca,.int .i64 fr,.int .i64 to_] 48)).alloc (.cells #[.slice B m.length cb] 78)):=(Up.alloc w _).allocs _
 have hC:=(Bx.new w #[.slice A l.length ca,.int .i64 fr,.int .i64 to_] 48).up (Up.alloc _ (.cells #[.slice B m.length cb] 78))
 have hL:Bx ((w.alloc (.cells #[.slice A l.length ca,.int .i64 fr,.int .i64 to_] 48)).alloc (.cells #[.slice B m.length cb] 78)) (w.heap.size+1) [.slice B m.length cb]:=by
  have:=Bx.new (w.alloc (.cells #[.slice A l.length ca,.int .i64 fr,.int .i64 to_] 48)) #[.slice B m.length cb] 78
  simpa using this
 have HFS:=daysF_fit (rs:=l) (l:=m) (k:=(to_+1-fr).toNat) h0 (show fr+(((to_+1-fr).toNat:Nat):Int)=to_+1 by omega) h1
 go_enter Tryz.func115,Tryz.ntmps115
 go_wp2_with fail
 generalize (w.alloc (.cells #[.slice A l.length ca,.int .i64 fr,.int .i64 to_] 48)).alloc (.cells #[.slice B m.length cb] 78)=W0 at *
 have HD:=qh (daysFor_any 163 #[.pointer (some ⟨w.heap.size+1,0,none⟩),.pointer (some ⟨w.heap.size,0,none⟩)] (ftB l m) fr to_ W0 (fun _ _=>by kernel_rfl) (fun n a b w1 hu=>fit1_any A B l m ca cb lo hi lo' hi' n _ _ w1 ((hr.up u hhi).up hu (Nat.le_trans hhi u.size)) (Nat.le_trans (Nat.le_trans hhi u.size) hu.size) hn hsp ((hr'.up u hhi').up hu (Nat.le_trans hhi' u.size)) (Nat.le_trans (Nat.le_trans hhi' u.size) hu.size) hm hcl (by omega) (by omega) ((hu.cell (hC 0 _ rfl).1)) ((hu.cell (hL 0 _ rfl).1))) h0 h1 (by omega))
 rw[HFS]at HD;clear hr hr' hsp hcl HFS hC hL;go_wp2_with (go_at_call 162;refine HD.out.mono ?_;rintro e w' ⟨v,rfl,ho,v1⟩)
 go_ret;exact⟨v,rfl,own_base ho u.size,u.trans v1⟩
end Go.Proofs.YtihcmhmanfobcaaGreatDoor
