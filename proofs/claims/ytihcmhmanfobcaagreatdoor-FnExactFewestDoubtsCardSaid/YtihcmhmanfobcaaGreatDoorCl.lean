/- The days between two stays, the reference's: between two stays. -/
import Derived.Test.YtihcmhmanfobcaaGreatDoorCh
set_option maxHeartbeats 4000000
set_option maxRecDepth 100000
namespace Go.Proofs.YtihcmhmanfobcaaGreatDoor
open Go.RowKit Go.Sort
theorem l15Gap_22(SA WA:Option Addr)(st:List I3)(Y:List Int)(sc wc lo hi lo2 hi2:Nat)(w:World)(hr:RdI3 w lo hi SA st)(hhi:hi≤w.heap.size)(hr2:RdI w lo2 hi2 WA Y)(hhi2:hi2≤w.heap.size)(hn:st.length≤40)(_hyn:Y.length≤12)(j:Nat)(p:I3)(y:Int)(hp:st[j]?=some p)(hp0:0≤p.a)(hy:Y[p.a.toNat]?=some y)(hpd:0≤p.d∧p.d≤730499)(hyb:-1≤y∧y≤1000000)(hys:decide (y<0)=false)(t:I3)(z:Int)(ht:st[j+1]?=some t)(ht0:0≤t.a)(hz:Y[t.a.toNat]?=some z)(htd:0≤t.b∧t.b≤730499)(hzb:-1≤z∧z≤1000000)(hzs:decide (z<0)=false) :
 Calls Tryz.prog 100 #[.slice SA st.length sc,.slice WA Y.length wc,.int .i64 ((j:Int)+1)] w fun e w'=>e=.returned (.tuple #[.agg #[.int .i64 (p.d+max 1 y),.int .i64 (t.b-max 1 z)],.bool (decide ((p.d+max 1 y)≤(t.b-max 1 z)))])∧Up w w':=by
 have hR:=(Bx.new w #[.int .i64 0,.int .i64 0] 84).up (Up.alloc _ (.cells #[.int .i64 0,.int .i64 730499] 84))
 have hS:=Bx.new (w.alloc (.cells #[.int .i64 0,.int .i64 0] 84)) #[.int .i64 0,.int .i64 730499] 84
 have u:=(Up.alloc w (.cells #[.int .i64 0,.int .i64 0] 84)).allocs (.cells #[.int .i64 0,.int .i64 730499] 84)
 have hsz:(w.alloc (.cells #[.int .i64 0,.int .i64 0] 84)).heap.size=w.heap.size+1:=by simp
 rw[hsz]at hS;have hsz2:((w.alloc (.cells #[.int .i64 0,.int .i64 0] 84)).alloc (.cells #[.int .i64 0,.int .i64 730499] 84)).heap.size=w.heap.size+2:=by simp
 clear hsz;have HR:=qh hr
 have HR2:=qh hr2
 have hpl:=(List.getElem?_eq_some_iff.1 hp).1
 have hpm:=(List.getElem?_eq_some_iff.1 hy).1
 obtain⟨pb,pof,p',hpe,-,-,hpg,q0,q1,q2⟩:=(hr.up u hhi).i3 hpl
 rw[hp]at hpg;cases hpg;obtain⟨pc,pw,p',hpf,-,-,hpg,g0⟩:=(hr2.up u hhi2).int hpm
 rw[hy]at hpg;cases hpg;obtain⟨pa,hpa⟩:∃k:Nat,p.a=k:=⟨p.a.toNat,by omega⟩
 obtain⟨pA,pB,pD⟩:=p
 simp only[]at *;subst hpa;simp only[Int.toNat_natCast]at *
 have hjx:IntKind.i64.wrap ((j:Int)+1-1)=(j:Int):=by rw[IntWalk.i64_in _ (by omega)];omega
 have hj1:decide (0<(j:Int)+1)=true:=decide_eq_true (by omega)
 have hj40:j<40:=by omega
 have HPE:=qh hpe
 have HPF:=qh hpf
 rw[hpe,hpf];have v:=Up.alloc ((w.alloc (.cells #[.int .i64 0,.int .i64 0] 84)).alloc (.cells #[.int .i64 0,.int .i64 730499] 84)) (.cells #[.int .i64 (pa:Int),.int .i64 pB,.int .i64 pD] 172)
 have hB:=Bx.new ((w.alloc (.cells #[.int .i64 0,.int .i64 0] 84)).alloc (.cells #[.int .i64 0,.int .i64 730499] 84)) #[.int .i64 (pa:Int),.int .i64 pB,.int .i64 pD] 172
 rw[hsz2]at hB;have g0a:=v.cell g0
 replace hR:=hR.up v;replace hS:=hS.up v;replace u:=u.trans v;clear hr hr2 hpe hpf v;have hwp:IntKind.i64.wrap (pD+max 1 y)=pD+max 1 y:=IntWalk.i64_in _ (by omega)
 go_enter Tryz.func100,Tryz.ntmps100
 go_wp2_with fail
 generalize ((w.alloc (.cells #[.int .i64 0,.int .i64 0] 84)).alloc (.cells #[.int .i64 0,.int .i64 730499] 84)).alloc (.cells #[.int .i64 (pa:Int),.int .i64 pB,.int .i64 pD] 172)=X at *
 obtain⟨b0,b1,b2⟩:=hB.c3
 obtain⟨s0,s1⟩:=hS.c2
 obtain⟨f0,f1⟩:=hS.f2
 clear g0 q0 q1 q2 hsz2;go_region_law (fail)
 all_goals
  try simp only[hwp]
  replace hS:=(hS.put 0 (.int .i64 (pD+max 1 y))).up ((Up.refl _).drew)
  replace hR:=(hR.other (b':=w.heap.size+1) (by omega) 0 (.int .i64 (pD+max 1 y))).up ((Up.refl _).drew)
  replace u:=(u.setCell (p:=⟨w.heap.size+1,0,none⟩) (by simp) (.int .i64 (pD+max 1 y))).drew
  simp only[List.set_cons_zero]at hS
  generalize (X.setCell ⟨w.heap.size+1,0,none⟩ (.int .i64 (pD+max 1 y))).drew=X2 at *
  clear b0 b1 b2 s0 s1 f0 f1 g0a hB hwp;have hr:=HR.out
  have hr2:=HR2.out
  have htl:=(List.getElem?_eq_some_iff.1 ht).1
  have htm:=(List.getElem?_eq_some_iff.1 hz).1
  obtain⟨tb,tof,t',hte,-,-,htg,k0,k1,k2⟩:=(hr.up u hhi).i3 htl
  rw[ht]at htg;cases htg;obtain⟨tc,tw,t',htf,-,-,htg,m0⟩:=(hr2.up u hhi2).int htm
  rw[hz]at htg;cases htg;obtain⟨ta,hta⟩:∃k:Nat,t.a=k:=⟨t.a.toNat,by omega⟩
  obtain⟨tA,tB,tD⟩:=t
  simp only[]at *;subst hta;simp only[Int.toNat_natCast]at *
  rw[HPE.out]at hte;cases hte;rw[HPF.out]at htf;cases htf;have v:=Up.alloc (X2) (.cells #[.int .i64 (ta:Int),.int .i64 tB,.int .i64 tD] 172)
  have hB:=Bx.new (X2) #[.int .i64 (ta:Int),.int .i64 tB,.int .i64 tD] 172
  have m0a:=v.cell m0
  replace hR:=hR.up v;replace hS:=hS.up v;replace u:=u.trans v;clear hr hr2 v;have hwt:IntKind.i64.wrap (tB-max 1 z)=tB-max 1 z:=IntWalk.i64_in _ (by omega)
  go_wp2_with fail
  generalize (X2).alloc (.cells #[.int .i64 (ta:Int),.int .i64 tB,.int .i64 tD] 172)=X5 at *
  obtain⟨b0,b1,b2⟩:=hB.c3
  obtain⟨s0,s1⟩:=hS.c2
  obtain⟨f0,f1⟩:=hS.f2
  clear m0 k0 k1 k2;go_region_law (fail)
  all_goals
   try simp only[hwt]
   replace hS:=(hS.put 1 (.int .i64 (tB-max 1 z))).up ((Up.refl _).drew)
   replace hR:=(hR.other (b':=w.heap.size+1) (by omega) 1 (.int .i64 (tB-max 1 z))).up ((Up.refl _).drew)
   replace u:=(u.setCell (p:=⟨w.heap.size+1,1,none⟩) (by simp) (.int .i64 (tB-max 1 z))).drew
   simp only[List.set_cons_zero,List.set_cons_succ]at hS
   generalize (X5.setCell ⟨w.heap.size+1,1,none⟩ (.int .i64 (tB-max 1 z))).drew=X6 at *
   clear b0 b1 b2 s0 s1 f0 f1 m0a hB hwt;obtain⟨r0,r1⟩:=hR.c2
   obtain⟨z0,z1⟩:=hR.f2
   obtain⟨s0,s1⟩:=hS.c2
   go_wp2_with fail
   go_region_law (fail)
   all_goals
    go_wp2_with fail
    refine bodyPost_ret (v:=.tuple #[.agg #[.int .i64 (pD+max 1 y),.int .i64 (tB-max 1 z)],.bool (decide ((pD+max 1 y)≤(tB-max 1 z)))]) (by simp[results,Tryz.results100,go_sem,r0,r1]) rfl ⟨rfl,by first|exact(u.setCell (by simp) _).setCell (by simp) _|exact((u.setCell (by simp) _).setCell (by simp) _).drew|exact((u.drew).setCell (by simp) _).setCell (by simp) _⟩
end Go.Proofs.YtihcmhmanfobcaaGreatDoor
