/- The days between two stays, the reference's: all branches. -/
import Derived.Test.YtihcmhmanfobcaaGreatDoorCj
import Derived.Test.YtihcmhmanfobcaaGreatDoorCk
import Derived.Test.YtihcmhmanfobcaaGreatDoorCl
set_option maxHeartbeats 8000000
set_option maxRecDepth 100000
namespace Go.Proofs.YtihcmhmanfobcaaGreatDoor
open Go.RowKit Go.Sort
def yAt(Y:List Int)(s:I3):Int:=Y.getD s.a.toNat 0
def gF(st:List I3)(Y:List Int):Nat→Int
 | 0=>0
 | i+1=>match st[i]? with|some s=>s.d+max 1 (yAt Y s)|none=>0
def gT(st:List I3)(Y:List Int)(i:Nat):Int:=match st[i]? with|some s=>s.b-max 1 (yAt Y s)|none=>730499
def gN(st:List I3)(Y:List Int)(i:Nat):Bool:=match st[i]? with|some s=>decide (yAt Y s<0)|none=>false
def gP(st:List I3)(Y:List Int):Nat→Bool
 | 0=>false
 | i+1=>gN st Y i
def gOk(st:List I3)(Y:List Int)(i:Nat):Bool:=!gP st Y i && (!gN st Y i && decide (gF st Y i≤gT st Y i))
theorem yAt_of{Y:List Int}{s:I3}{y:Int}(h:Y[s.a.toNat]?=some y):yAt Y s=y:=by
 unfold yAt;rw[List.getD_eq_getElem?_getD,h];rfl
theorem l15Gap_any(SA WA:Option Addr)(st:List I3)(Y:List Int)(sc wc lo hi lo2 hi2:Nat)(i:Nat)(w:World)(hr:RdI3 w lo hi SA st)(hhi:hi≤w.heap.size)(hr2:RdI w lo2 hi2 WA Y)(hhi2:hi2≤w.heap.size)(hn:st.length≤40)(hyn:Y.length≤12)(hi':i≤st.length)
 (hst:∀s∈st,0≤s.a∧s.a<Y.length∧0≤s.b∧s.b≤730499∧0≤s.d∧s.d≤730499) (hY:∀y∈Y,-1≤y∧y≤1000000) :
 Calls Tryz.prog 100 #[.slice SA st.length sc,.slice WA Y.length wc,.int .i64 i] w fun e w'=>∃a b,e=.returned (.tuple #[.agg #[.int .i64 a,.int .i64 b],.bool (gOk st Y i)])∧(gOk st Y i=true→a=gF st Y i∧b=gT st Y i)∧Up w w':=by
 have hat:∀(k:Nat) (s:I3),st[k]?=some s→(0≤s.a∧(0≤s.b∧s.b≤730499)∧0≤s.d∧s.d≤730499)∧∃y,Y[s.a.toNat]?=some y∧-1≤y∧y≤1000000:=fun k s h=>by
  obtain⟨h0,h1,h2,h3,h4,h5⟩:=hst s (List.mem_of_getElem? h)
  refine⟨⟨h0,⟨h2,h3⟩,h4,h5⟩,Y[s.a.toNat]'(by omega),List.getElem?_eq_getElem (by omega),hY _ (List.getElem_mem _)⟩
 have hend:∀k,k=st.length→st[k]?=none:=fun k h=>List.getElem?_eq_none (by omega)
 have hget:∀k,k<st.length→∃s,st[k]?=some s:=fun k h=>⟨_,List.getElem?_eq_getElem h⟩
 rcases i with _|j
 ·rcases Nat.eq_or_lt_of_le hi' with h|h
  ·refine(l15Gap_00 SA WA st Y sc wc w h.symm).mono fun e w' ⟨h1,h2⟩=>⟨0,730499,?_,fun _=>?_,h2⟩
   ·rw[h1];simp[gOk,gP,gN,gF,gT,hend 0 h]
   ·simp[gF,gT,hend 0 h]
  ·obtain⟨t,ht⟩:=hget 0 h
   obtain⟨⟨t0,t1,-⟩,z,hz,zb⟩:=hat 0 t ht
   rcases hs:decide (z<0) with _|_
   ·refine(l15Gap_02 SA WA st Y sc wc lo hi lo2 hi2 w hr hhi hr2 hhi2 hn hyn t z ht t0 hz t1 zb hs).mono fun e w' ⟨h1,h2⟩=>⟨0,t.b-max 1 z,?_,fun _=>?_,h2⟩
    ·rw[h1];simp[gOk,gP,gN,gF,gT,ht,yAt_of hz,hs]
    ·simp[gF,gT,ht,yAt_of hz]
   ·refine(l15Gap_01 SA WA st Y sc wc lo hi lo2 hi2 w hr hhi hr2 hhi2 hn hyn t z ht t0 hz t1 zb hs).mono fun e w' ⟨h1,h2⟩=>⟨0,730499,?_,fun hk=>?_,h2⟩
    ·rw[h1];simp[gOk,gP,gN,gF,gT,ht,yAt_of hz,hs]
    ·simp[gOk,gP,gN,ht,yAt_of hz,hs]at hk
 ·obtain⟨p,hp⟩:=hget j (by omega)
  obtain⟨⟨p0,-,p1⟩,y,hy,yb⟩:=hat j p hp
  rw[show((j+1:Nat):Int)=(j:Int)+1 by omega]
  rcases hs:decide (y<0) with _|_
  ·rcases Nat.eq_or_lt_of_le hi' with h|h
   ·refine(l15Gap_20 SA WA st Y sc wc lo hi lo2 hi2 w hr hhi hr2 hhi2 hn hyn j p y hp p0 hy p1 yb hs h.symm).mono fun e w' ⟨h1,h2⟩=>⟨p.d+max 1 y,730499,?_,fun _=>?_,h2⟩
    ·rw[h1];simp[gOk,gP,gN,gF,gT,hend _ h,hp,yAt_of hy,hs]
    ·simp[gF,gT,hend _ h,hp,yAt_of hy]
   ·obtain⟨t,ht⟩:=hget (j+1) h
    obtain⟨⟨t0,t1,-⟩,z,hz,zb⟩:=hat _ t ht
    rcases hs2:decide (z<0) with _|_
    ·refine(l15Gap_22 SA WA st Y sc wc lo hi lo2 hi2 w hr hhi hr2 hhi2 hn hyn j p y hp p0 hy p1 yb hs t z ht t0 hz t1 zb hs2).mono fun e w' ⟨h1,h2⟩=>⟨p.d+max 1 y,t.b-max 1 z,?_,fun _=>?_,h2⟩
     ·rw[h1];simp[gOk,gP,gN,gF,gT,ht,hp,yAt_of hy,yAt_of hz,hs,hs2]
     ·simp[gF,gT,ht,hp,yAt_of hy,yAt_of hz]
    ·refine(l15Gap_21 SA WA st Y sc wc lo hi lo2 hi2 w hr hhi hr2 hhi2 hn hyn j p y hp p0 hy p1 yb hs t z ht t0 hz t1 zb hs2).mono fun e w' ⟨h1,h2⟩=>⟨p.d+max 1 y,730499,?_,fun hk=>?_,h2⟩
     ·rw[h1];simp[gOk,gP,gN,gF,gT,ht,hp,yAt_of hy,yAt_of hz,hs,hs2]
     ·simp[gOk,gP,gN,ht,hp,yAt_of hy,yAt_of hz,hs,hs2]at hk
  ·refine(l15Gap_10 SA WA st Y sc wc lo hi lo2 hi2 w hr hhi hr2 hhi2 hn hyn j p y hp p0 hy p1 yb hs).mono fun e w' ⟨h1,h2⟩=>⟨0,730499,?_,fun hk=>?_,h2⟩
   ·rw[h1];simp[gOk,gP,gN,hp,yAt_of hy,hs]
   ·simp[gOk,gP,gN,hp,yAt_of hy,hs]at hk
theorem Path.symm{ws:List I3}{a b:Nat}{t:Int}(h:Path ws a b t):Path ws b a t:=by
 induction h with
 | nil=>exact Path.nil
 | step h hw hf ih =>
   have h1:=Path.step (Path.nil (ws:=ws)) hw hf.symm
   have h2:=h1.trans ih
   rw[Int.zero_add,Int.add_comm]at h2;exact h2
theorem fw_symm{ws:List I3}{n a b:Nat}(h:WaysOk ws n)(ha:a<n)(hb:b<n):fw ws n a b=fw ws n b a:=by
 have k1:=fw_bd h n a b
 have k2:=fw_bd h n b a
 have h1:fw ws n a b≤fw ws n b a:=by
  rcases fw_path h n b a with e|p
  ·omega
  ·exact fw_le h ha p.symm
 have h2:fw ws n b a≤fw ws n a b:=by
  rcases fw_path h n a b with e|p
  ·omega
  ·exact fw_le h hb p.symm
 omega
theorem gpL_eq{ws:List I3}{m p:Nat}{st:List I3}{Y:List Int}(hst:∀s∈st,0≤s.b∧s.b≤730499∧0≤s.d∧s.d≤730499)
 (hY:∀s∈st,(yAt Y s<0∧fw ws m s.a.toNat p=1000000)∨(0≤yAt Y s∧yAt Y s=fw ws m s.a.toNat p)) (i:Nat) :
 gpL ws m st p i=if gOk st Y i=true then [(gF st Y i,gT st Y i)] else []:=by
 have hb:(gP st Y i=true∧gpF ws m st p i > 730499)∨(gP st Y i=false∧gpF ws m st p i=gF st Y i∧0≤gF st Y i):=by
  rcases i with _|j
  ·exact .inr ⟨rfl,rfl,Int.le_refl _⟩
  ·simp only[gP,gN,gpF,gF]
   rcases hj:st[j]? with _|s
   ·exact .inr ⟨rfl,rfl,Int.le_refl _⟩
   ·have h1:=hst s (List.mem_of_getElem? hj)
    rcases hY s (List.mem_of_getElem? hj) with⟨h2,h3⟩|⟨h2,h3⟩
    ·refine .inl ⟨by simp[h2],?_⟩
     simp only[h3];omega
    ·refine .inr ⟨by simp;omega,?_,?_⟩
     ·simp only[h3]
     ·simp only[];omega
 have ha:(gN st Y i=true∧gpT ws m st p i<0)∨(gN st Y i=false∧gpT ws m st p i=gT st Y i∧gT st Y i≤730499):=by
  simp only[gN,gpT,gT]
  rcases hj:st[i]? with _|s
  ·exact .inr ⟨rfl,rfl,Int.le_refl _⟩
  ·have h1:=hst s (List.mem_of_getElem? hj)
   rcases hY s (List.mem_of_getElem? hj) with⟨h2,h3⟩|⟨h2,h3⟩
   ·refine .inl ⟨by simp[h2],?_⟩
    simp only[h3];omega
   ·refine .inr ⟨by simp;omega,?_,?_⟩
    ·simp only[h3]
    ·simp only[];omega
 unfold gpL gOk
 rcases hb with⟨b1,b2⟩|⟨b1,b2,b3⟩<;>rcases ha with⟨a1,a2⟩|⟨a1,a2,a3⟩
 ·rw[b1,if_neg (by omega)];simp
 ·rw[b1,if_neg (by omega)];simp
 ·rw[a1,if_neg (by omega)];simp
 ·rw[b1,a1,b2,a2];simp
theorem stL1_eq{st:List I3}{p i:Nat}{s:I3}(h:st[i]?=some s):stL1 st p i=if (s.a==(p:Int))=true then [(s.b,s.d)] else []:=by
 unfold stL1;rw[h];simp
theorem stL1_end{st:List I3}{p i:Nat}(h:st.length≤i):stL1 st p i=[]:=by
 unfold stL1;rw[List.getElem?_eq_none h]
theorem l15Days_any(s:Sl ByteArray)(t:Sl I3)(q:Sl I3)(p lo hi lo2 hi2:Nat)(w:World)(h2:SrI3 w lo hi t)(h3:SrI3 w lo2 hi2 q)(hn12:s.l.length≤12)(hp:p<s.l.length)(hws:WaysOk t.l s.l.length)(hl40:t.l.length≤40)(hq40:q.l.length≤40)
 (hst:∀x∈q.l,syB s.l.length x=true) :
 Calls Tryz.prog 52 #[.agg #[.slice s.A s.l.length s.c,.slice t.A t.l.length t.c],.slice q.A q.l.length q.c,.int .i64 p] w fun e w'=>∃v,e=.returned v∧w'.ownsRow w.heap.size 84 2 v (unL (cbL t.l s.l.length q.l p)).length ((unL (cbL t.l s.l.length q.l p)).flatMap spC)∧Up w w':=by
 obtain⟨i0,hi0,hz0,hz1,hz2⟩:=info_parts infoSp
 have CF:=qh (fun(wx:World) (v:Up w wx)=>l14From_any s t p lo hi wx (h2.up v) hn12 hp hws hl40)
 obtain⟨A,c,l⟩:=s
 obtain⟨B,c',ts⟩:=t
 obtain⟨Q,qc,st⟩:=q
 have hr:=h3.rd
 have hhi:=h3.hhi
 simp only[]at *;have hst':∀x∈st,0≤x.a∧x.a<l.length∧0≤x.b∧x.b≤730499∧x.b≤x.d∧0≤x.d∧x.d≤730499:=fun x hx=>by
  have:=hst x hx
  simp[syB,spanB,dayB,inB]at this
  omega
 obtain⟨Y,hYd⟩:∃Y,Y=bf ts l.length p:=⟨_,rfl⟩
 have hYl:Y.length=l.length:=by rw[hYd];exact bfN_len _ _ _ _
 have hYv:∀b,b<l.length→(Y.getD b 0<0∧fw ts l.length p b=1000000)∨(0≤Y.getD b 0∧Y.getD b 0=fw ts l.length p b∧fw ts l.length p b<1000000):=fun b hb=>by
  rw[hYd];exact bf_fw hws hl40 hn12 hp hb
 have hYb:∀y∈Y,-1≤y∧y≤1000000:=fun y hy=>by
  obtain⟨k,hk,e⟩:=List.getElem_of_mem hy
  have h1:=hYv k (by omega)
  have h2:Y.getD k 0=y:=by rw[List.getD_eq_getElem?_getD,List.getElem?_eq_getElem hk];exact e
  have h4:-1≤y:=by
   have:=bfN_lo hws hp l.length
   rw[show bfN ts l.length p l.length=Y by rw[hYd];rfl]at this
   have h5:=this k (by omega)
   rw[h2]at h5;exact h5
  rw[h2]at h1;omega
 have hGP:=qh (fun i=>gpL_eq (ws:=ts) (m:=l.length) (p:=p) (st:=st) (Y:=Y) (fun x hx=>by have:=hst' x hx;omega) (fun x hx=>by
  have h1:=hst' x hx
  have h2:=hYv x.a.toNat (by omega)
  rw[fw_symm hws (show x.a.toNat<l.length by omega) hp]
  unfold yAt;omega) i)
 have HDY:=qh (cbT_dy (ws:=ts) (m:=l.length) (p:=p) (st:=st) (fun x hx=>by have:=hst x hx;simp[syB]at this;exact this.2))
 have HCL:=qh (cbT_len ts l.length st p)
 have HST:=qh hst'
 have HYB:=qh hYb
 rw[← hYd]at CF;clear hst hst' hYv hYb hYd hws h2 h3;have u:=Up.alloc w (.cells #[.slice A l.length c,.slice B ts.length c'] 55)
 go_enter Tryz.func52,Tryz.ntmps52
 go_wp2_with fail
 generalize w.alloc (.cells #[.slice A l.length c,.slice B ts.length c'] 55)=W0 at *
 refine(CF.out _ u).mono ?_
 rintro e w1 ⟨vY,rfl,oY,v⟩
 obtain⟨AY,cY,rfl,hcY,hmY,-,-⟩:=own_form oY
 have hrY:=Rd.own int_len (show w1.ownsRow W0.heap.size 2 1 (.slice AY Y.length cY) Y.length (Y.flatMap intCells) by rw[hYl];exact oY)
 replace u:=u.trans v;clear oY v;go_wp2_with fail
 have hown0:=World.ownsRow_lit (base:=w1.heap.size) (e:=84) (size:=2) w1 #[] 0 (Nat.le_refl _) (by simp[maxLen]) rfl
 have hup0:=(Up.refl w1).allocs (.cells #[] 84)
 obtain⟨v0,hv0⟩:∃v,v=Value.slice (some ⟨w1.heap.size,0,none⟩) 0 0:=⟨_,rfl⟩
 rw[← hv0]at hown0 ⊢
 generalize w1.alloc (.cells #[] 84)=w2 at *
 clear hv0;have CG:=qh (fun(i:Nat) (hi:i≤st.length) (wx:World) (v:Up w1 wx)=>l15Gap_any Q AY st Y qc cY lo2 hi2 W0.heap.size w1.heap.size i wx (hr.up (u.trans v) hhi) (Nat.le_trans hhi (u.trans v).size) (hrY.up v (Nat.le_refl _)) v.size hq40 (by omega) hi (fun x hx=>by have:=HST.out x hx;omega) HYB.out)
 rw[hYl]at CG;go_loopw [8,9,10,11] (fun o tn sb ok wi=>∃k:Nat,∃O:List Sp,k≤st.length+1∧tn=.int .i64 k∧Hid (O=cbT ts l.length st p k)∧wi.ownsRow w1.heap.size 84 2 o O.length (O.flatMap spC)∧Up w1 wi) (fun _ tn _ _ _=>st.length+1-(intOf tn).toNat)
 case atStart=>exact⟨0,[],Nat.zero_le _,rfl,qh rfl,hown0,hup0⟩
 case round =>
  clear hown0 hup0;obtain⟨k,O,hk,rfl,HO,hown,hui⟩:=hrel
  have hOn:O.length≤2*k:=by rw[HO.out];exact HCL.out k
  obtain⟨Ao,co,rfl,hco,hcm,-,-⟩:=own_form hown
  by_cases hlt:k≤st.length
  ·have CK:=qh (CG.out k hlt)
   have HG:=qh (hGP.out k)
   obtain⟨b,hb⟩:∃z,gOk st Y k=z:=⟨_,rfl⟩
   rw[hb]at CK HG;clear hb;go_wp2_with fail
   refine(CK.out _ hui).mono ?_
   rintro e w3 ⟨fa,fb,rfl,hf,v⟩
   have HF:=qh hf
   replace hown:=own_up hown v;replace hui:=hui.trans v;clear v hf CK;have hsz:(w3.alloc (.cells #[.int .i64 fa,.int .i64 fb] 84)).heap.size=w3.heap.size+1:=by simp
   rcases b with _|_
   ·have v:=Up.alloc w3 (.cells #[.int .i64 fa,.int .i64 fb] 84)
    replace hown:=own_up hown v;replace hui:=hui.trans v;clear v hsz;obtain⟨O1,hO1⟩:∃z,z=O:=⟨_,rfl⟩
    have HO1:=qh (show cbT ts l.length st p (k+1)=O1++stL1 st p k by rw[hO1,HO.out];show _++(gpL _ _ _ _ _++_)=_;rw[HG.out];rfl)
    rw[← hO1]at hown hOn ⊢
    clear hO1 HO HF;obtain⟨A1,c1,hA1,hc1,hm1,-,-⟩:=own_form hown
    cases hA1;by_cases hlt2:k<st.length
    ·obtain⟨qb,qo,d,hQ,-,-,hd,q0,q1,q2⟩:=(hr.up (u.trans hui) hhi).i3 hlt2
     have HS:=qh (stL1_eq (p:=p) hd)
     obtain⟨b2,hb2⟩:∃z,(d.a==(p:Int))=z:=⟨_,rfl⟩
     rw[hb2]at HS;subst hQ;clear hd;obtain⟨dA,dB,dD⟩:=d
     simp only[]at *;rcases b2 with _|_
     ·go_wp2
      go_roundw
      case rel=>exact⟨k+1,O1,by omega,by go_num,qh (by rw[HO1.out,HS.out];simp),hown,hui⟩
      case measure=>simp[intOf];omega
     ·have n1:O1.length+1≤maxLen:=by unfold maxLen;omega
      have n2:(O1.length+1)*16≤140737488355328:=by omega
      have hzm:(Value.agg #[.int .i64 0,.int .i64 0]).cells.size=2:=rfl
      go_wp2_with fail
      generalize w3.alloc (.cells #[.int .i64 fa,.int .i64 fb] 84)=w4 at *
      have hal:=hui.allocs (.cells #[.int .i64 dB,.int .i64 dD] 84)
      have HOA:=qh (hown.alloc (.cells #[.int .i64 dB,.int .i64 dD] 84))
      have HCN:=qh (cell_two_newP w4 (.int .i64 dB) (.int .i64 dD) 84)
      have HON:Hid (∀u∈[Value.int .i64 dB,.int .i64 dD],u.oneCell'=true):=qh (by simp[Value.oneCell'])
      clear q0;go_region_law (first
       |(refine step_append_ownP _ rfl (.tmp 47) (.tmp 59) 76 rfl w1.heap.size 84 i0 _ 2 16 Tryz.underlying76 hi0 hz0 hz1 hz2 hzm (by decide) (.slice Ao O1.length co) O1.length (O1.flatMap spC) (by simp[Act.eval]) HOA.out ⟨w4.heap.size,0,none⟩ 1 1 [.int .i64 dB,.int .i64 dD] (by simp[Act.eval]) rfl HCN.out HON.out n1 n2 hal.size ?_
         intro v2 w5 hown2 hgrow
         have hu5:=(hal.drew).grown hgrow (fun k hk=>(hown.lt k hk).1)
         have hown':=hown2))
      all_goals
       clear hgrow hown2 hown q1 q2;go_wp2;go_roundw
       case rel=>exact⟨k+1,O1++[(dB,dD)],by omega,by go_num,qh (by rw[HO1.out,HS.out];simp),by simpa[spC] using hown',hu5⟩
       case measure=>simp[intOf];omega
    ·have HS:=qh (stL1_end (st:=st) (p:=p) (i:=k) (by omega))
     go_wp2;go_roundw
     case rel=>exact⟨k+1,O1,by omega,by go_num,qh (by rw[HO1.out,HS.out,List.append_nil]),hown,hui⟩
     case measure=>simp[intOf];omega
   ·have HV:=qh (HF.out rfl)
    have n1:O.length+1≤maxLen:=by unfold maxLen;omega
    have n2:(O.length+1)*16≤140737488355328:=by omega
    have hub:=hui.allocs (.cells #[.int .i64 fa,.int .i64 fb] 84)
    have n3:w1.heap.size≤((w3.alloc (.cells #[.int .i64 fa,.int .i64 fb] 84)).alloc (.cells #[.int .i64 fa,.int .i64 fb] 84)).heap.size:=(hub.allocs _).size
    have HNP:=qh (show ∀j u,[Value.int .i64 fa,.int .i64 fb][j]?=some u→((w3.alloc (.cells #[.int .i64 fa,.int .i64 fb] 84)).alloc (.cells #[.int .i64 fa,.int .i64 fb] 84)).cell? ((⟨w3.heap.size+1,0,none⟩:Addr).add j)=some u by rw[← hsz];exact cell_two_newP _ _ _ _)
    have HOW:=qh ((hown.alloc (.cells #[.int .i64 fa,.int .i64 fb] 84)).alloc (.cells #[.int .i64 fa,.int .i64 fb] 84))
    clear hsz;go_wp2_with ((at_builtin;refine wpList_append_own _ rfl _ _ 76 rfl w1.heap.size 84 i0 _ 2 16 Tryz.underlying76 hi0 hz0 hz1 hz2 rfl (by decide) _ _ _ rfl HOW.out ⟨w3.heap.size+1,0,none⟩ 1 1 [.int .i64 fa,.int .i64 fb] rfl rfl HNP.out (by simp[Value.oneCell']) n1 n2 n3 ?_))
    intro v' w4 hown' hgrow _
    have hu4:=(hub.allocs (.cells #[.int .i64 fa,.int .i64 fb] 84)).grown hgrow (fun k hk=>(hown.lt k hk).1)
    clear hgrow hown HNP HOW n3 hub;obtain⟨O1,hO1⟩:∃z,z=O++[(fa,fb)]:=⟨_,rfl⟩
    have HO1:=qh (show cbT ts l.length st p (k+1)=O1++stL1 st p k by rw[hO1,HO.out,HV.out.1,HV.out.2];show _++(gpL _ _ _ _ _++_)=_;rw[HG.out];simp)
    have hown:w4.ownsRow w1.heap.size 84 2 v' O1.length (O1.flatMap spC):=by rw[hO1];simpa[spC] using hown'
    have hO1n:O1.length≤2*k+1:=by rw[hO1];simp;omega
    replace hui:=hu4;clear hown' hu4 hO1 HO HF HV n1 n2 hOn;obtain⟨A1,c1,rfl,hc1,hm1,-,-⟩:=own_form hown
    by_cases hlt2:k<st.length
    ·obtain⟨qb,qo,d,hQ,-,-,hd,q0,q1,q2⟩:=(hr.up (u.trans hui) hhi).i3 hlt2
     have HS:=qh (stL1_eq (p:=p) hd)
     obtain⟨b2,hb2⟩:∃z,(d.a==(p:Int))=z:=⟨_,rfl⟩
     rw[hb2]at HS;subst hQ;clear hd;obtain⟨dA,dB,dD⟩:=d
     simp only[]at *;rcases b2 with _|_
     ·go_wp2
      go_roundw
      case rel=>exact⟨k+1,O1,by omega,by go_num,qh (by rw[HO1.out,HS.out];simp),hown,hui⟩
      case measure=>simp[intOf];omega
     ·have n1:O1.length+1≤maxLen:=by unfold maxLen;omega
      have n2:(O1.length+1)*16≤140737488355328:=by omega
      have hzm:(Value.agg #[.int .i64 0,.int .i64 0]).cells.size=2:=rfl
      go_wp2_with fail
      have hal:=hui.allocs (.cells #[.int .i64 dB,.int .i64 dD] 84)
      have HOA:=qh (hown.alloc (.cells #[.int .i64 dB,.int .i64 dD] 84))
      have HCN:=qh (cell_two_newP w4 (.int .i64 dB) (.int .i64 dD) 84)
      have HON:Hid (∀u∈[Value.int .i64 dB,.int .i64 dD],u.oneCell'=true):=qh (by simp[Value.oneCell'])
      clear q0;go_region_law (first
       |(refine step_append_ownP _ rfl (.tmp 47) (.tmp 59) 76 rfl w1.heap.size 84 i0 _ 2 16 Tryz.underlying76 hi0 hz0 hz1 hz2 hzm (by decide) (.slice A1 O1.length c1) O1.length (O1.flatMap spC) (by simp[Act.eval]) HOA.out ⟨w4.heap.size,0,none⟩ 1 1 [.int .i64 dB,.int .i64 dD] (by simp[Act.eval]) rfl HCN.out HON.out n1 n2 hal.size ?_
         intro v2 w5 hown2 hgrow
         have hu5:=(hal.drew).grown hgrow (fun k hk=>(hown.lt k hk).1)
         have hown':=hown2))
      all_goals
       clear hgrow hown2 hown q1 q2;go_wp2;go_roundw
       case rel=>exact⟨k+1,O1++[(dB,dD)],by omega,by go_num,qh (by rw[HO1.out,HS.out];simp),by simpa[spC] using hown',hu5⟩
       case measure=>simp[intOf];omega
    ·have HS:=qh (stL1_end (st:=st) (p:=p) (i:=k) (by omega))
     go_wp2;go_roundw
     case rel=>exact⟨k+1,O1,by omega,by go_num,qh (by rw[HO1.out,HS.out,List.append_nil]),hown,hui⟩
     case measure=>simp[intOf];omega
  ·have hk1:k=st.length+1:=by omega
   have hfin:O=cbL ts l.length st p:=by rw[HO.out,hk1];rfl
   have hbd:BdS O:=by rw[HO.out];exact(HDY.out k).bd.1
   have HM:=qh (specMake_any Ao O co w1.heap.size wr.heap.size wr (Rd.own spC_len hown) (Nat.le_refl _) (by omega) hbd)
   have HE:=qh hfin
   have hk2:¬ k≤st.length:=hlt
   clear hfin hbd hk1 HO;go_wp2_with fail
   refine HM.out.mono ?_
   rintro e w3 ⟨v,rfl,ho,hu3⟩
   have HO3:=qh (own_base ho (Nat.le_trans u.size hui.size))
   clear ho;go_wp2;go_ret;exact⟨v,rfl,by rw[← HE.out];exact HO3.out,(u.trans hui).trans hu3⟩
end Go.Proofs.YtihcmhmanfobcaaGreatDoor
