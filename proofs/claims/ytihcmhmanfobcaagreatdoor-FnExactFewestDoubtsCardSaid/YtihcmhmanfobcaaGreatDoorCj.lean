/- The days between two stays, the reference's: ahead of the first stay, behind one without a way. -/
import Derived.Test.YtihcmhmanfobcaaGreatDoorCh
set_option maxHeartbeats 4000000
set_option maxRecDepth 100000
namespace Go.Proofs.YtihcmhmanfobcaaGreatDoor
open Go.RowKit Go.Sort
theorem l15Gap_00(SA WA:Option Addr)(st:List I3)(Y:List Int)(sc wc:Nat)(w:World)(ht:st.length=0) :
 Calls Tryz.prog 100 #[.slice SA st.length sc,.slice WA Y.length wc,.int .i64 0] w fun e w'=>e=.returned (.tuple #[.agg #[.int .i64 0,.int .i64 730499],.bool (decide (0≤730499))])∧Up w w':=by
 have hR:=(Bx.new w #[.int .i64 0,.int .i64 0] 84).up (Up.alloc _ (.cells #[.int .i64 0,.int .i64 730499] 84))
 have hS:=Bx.new (w.alloc (.cells #[.int .i64 0,.int .i64 0] 84)) #[.int .i64 0,.int .i64 730499] 84
 have u:=(Up.alloc w (.cells #[.int .i64 0,.int .i64 0] 84)).allocs (.cells #[.int .i64 0,.int .i64 730499] 84)
 have hsz:(w.alloc (.cells #[.int .i64 0,.int .i64 0] 84)).heap.size=w.heap.size+1:=by simp
 rw[hsz]at hS;have hsz2:((w.alloc (.cells #[.int .i64 0,.int .i64 0] 84)).alloc (.cells #[.int .i64 0,.int .i64 730499] 84)).heap.size=w.heap.size+2:=by simp
 clear hsz;skip
 skip
 go_enter Tryz.func100,Tryz.ntmps100
 go_wp2_with fail
 generalize (w.alloc (.cells #[.int .i64 0,.int .i64 0] 84)).alloc (.cells #[.int .i64 0,.int .i64 730499] 84)=X at *
 clear hsz2;obtain⟨r0,r1⟩:=hR.c2
 obtain⟨z0,z1⟩:=hR.f2
 obtain⟨s0,s1⟩:=hS.c2
 go_wp2_with fail
 go_region_law (fail)
 all_goals
  go_wp2_with fail
  refine bodyPost_ret (v:=.tuple #[.agg #[.int .i64 0,.int .i64 730499],.bool (decide (0≤730499))]) (by simp[results,Tryz.results100,go_sem,r0,r1]) rfl ⟨rfl,by first|exact(u.setCell (by simp) _).setCell (by simp) _|exact((u.setCell (by simp) _).setCell (by simp) _).drew|exact((u.drew).setCell (by simp) _).setCell (by simp) _⟩
theorem l15Gap_01(SA WA:Option Addr)(st:List I3)(Y:List Int)(sc wc lo hi lo2 hi2:Nat)(w:World)(hr:RdI3 w lo hi SA st)(hhi:hi≤w.heap.size)(hr2:RdI w lo2 hi2 WA Y)(hhi2:hi2≤w.heap.size)(_hn:st.length≤40)(_hyn:Y.length≤12)(t:I3)(z:Int)(ht:st[0]?=some t)(ht0:0≤t.a)(hz:Y[t.a.toNat]?=some z)(htd:0≤t.b∧t.b≤730499)(_hzb:-1≤z∧z≤1000000)(hzs:decide (z<0)=true) :
 Calls Tryz.prog 100 #[.slice SA st.length sc,.slice WA Y.length wc,.int .i64 0] w fun e w'=>e=.returned (.tuple #[.agg #[.int .i64 0,.int .i64 730499],.bool false])∧Up w w':=by
 have hR:=(Bx.new w #[.int .i64 0,.int .i64 0] 84).up (Up.alloc _ (.cells #[.int .i64 0,.int .i64 730499] 84))
 have hS:=Bx.new (w.alloc (.cells #[.int .i64 0,.int .i64 0] 84)) #[.int .i64 0,.int .i64 730499] 84
 have u:=(Up.alloc w (.cells #[.int .i64 0,.int .i64 0] 84)).allocs (.cells #[.int .i64 0,.int .i64 730499] 84)
 have hsz:(w.alloc (.cells #[.int .i64 0,.int .i64 0] 84)).heap.size=w.heap.size+1:=by simp
 rw[hsz]at hS;have hsz2:((w.alloc (.cells #[.int .i64 0,.int .i64 0] 84)).alloc (.cells #[.int .i64 0,.int .i64 730499] 84)).heap.size=w.heap.size+2:=by simp
 clear hsz;have HR:=qh hr
 have HR2:=qh hr2
 clear hr hr2;have hr:=HR.out
 have hr2:=HR2.out
 have htl:=(List.getElem?_eq_some_iff.1 ht).1
 have htm:=(List.getElem?_eq_some_iff.1 hz).1
 obtain⟨tb,tof,t',hte,-,-,htg,k0,k1,k2⟩:=(hr.up u hhi).i3 htl
 rw[ht]at htg;cases htg;obtain⟨tc,tw,t',htf,-,-,htg,m0⟩:=(hr2.up u hhi2).int htm
 rw[hz]at htg;cases htg;obtain⟨ta,hta⟩:∃k:Nat,t.a=k:=⟨t.a.toNat,by omega⟩
 obtain⟨tA,tB,tD⟩:=t
 simp only[]at *;subst hta;simp only[Int.toNat_natCast]at *
 simp only[Nat.zero_mul,Nat.add_zero]at k0 k1 k2
 rw[hte,htf];have v:=Up.alloc ((w.alloc (.cells #[.int .i64 0,.int .i64 0] 84)).alloc (.cells #[.int .i64 0,.int .i64 730499] 84)) (.cells #[.int .i64 (ta:Int),.int .i64 tB,.int .i64 tD] 172)
 have hB:=Bx.new ((w.alloc (.cells #[.int .i64 0,.int .i64 0] 84)).alloc (.cells #[.int .i64 0,.int .i64 730499] 84)) #[.int .i64 (ta:Int),.int .i64 tB,.int .i64 tD] 172
 rw[hsz2]at hB;have m0a:=v.cell m0
 replace hR:=hR.up v;replace hS:=hS.up v;replace u:=u.trans v;clear hr hr2 v hte htf;obtain⟨r0,r1⟩:=hR.c2
 obtain⟨z0,z1⟩:=hR.f2
 obtain⟨s0,s1⟩:=hS.c2
 go_enter Tryz.func100,Tryz.ntmps100
 go_wp2_with fail
 refine bodyPost_ret (v:=.tuple #[.agg #[.int .i64 0,.int .i64 730499],.bool false]) (by simp[results,Tryz.results100,go_sem]) rfl ⟨rfl,by first|exact(u.setCell (by simp) _).setCell (by simp) _|repeat (first|exact Up.alloc _ _|exact Up.refl _|refine Up.allocs ?_ _|refine Up.setCell ?_ (by simp;try omega) _)⟩
theorem l15Gap_02(SA WA:Option Addr)(st:List I3)(Y:List Int)(sc wc lo hi lo2 hi2:Nat)(w:World)(hr:RdI3 w lo hi SA st)(hhi:hi≤w.heap.size)(hr2:RdI w lo2 hi2 WA Y)(hhi2:hi2≤w.heap.size)(_hn:st.length≤40)(_hyn:Y.length≤12)(t:I3)(z:Int)(ht:st[0]?=some t)(ht0:0≤t.a)(hz:Y[t.a.toNat]?=some z)(htd:0≤t.b∧t.b≤730499)(hzb:-1≤z∧z≤1000000)(hzs:decide (z<0)=false) :
 Calls Tryz.prog 100 #[.slice SA st.length sc,.slice WA Y.length wc,.int .i64 0] w fun e w'=>e=.returned (.tuple #[.agg #[.int .i64 0,.int .i64 (t.b-max 1 z)],.bool (decide (0≤(t.b-max 1 z)))])∧Up w w':=by
 have hR:=(Bx.new w #[.int .i64 0,.int .i64 0] 84).up (Up.alloc _ (.cells #[.int .i64 0,.int .i64 730499] 84))
 have hS:=Bx.new (w.alloc (.cells #[.int .i64 0,.int .i64 0] 84)) #[.int .i64 0,.int .i64 730499] 84
 have u:=(Up.alloc w (.cells #[.int .i64 0,.int .i64 0] 84)).allocs (.cells #[.int .i64 0,.int .i64 730499] 84)
 have hsz:(w.alloc (.cells #[.int .i64 0,.int .i64 0] 84)).heap.size=w.heap.size+1:=by simp
 rw[hsz]at hS;have hsz2:((w.alloc (.cells #[.int .i64 0,.int .i64 0] 84)).alloc (.cells #[.int .i64 0,.int .i64 730499] 84)).heap.size=w.heap.size+2:=by simp
 clear hsz;have HR:=qh hr
 have HR2:=qh hr2
 clear hr hr2;have hr:=HR.out
 have hr2:=HR2.out
 have htl:=(List.getElem?_eq_some_iff.1 ht).1
 have htm:=(List.getElem?_eq_some_iff.1 hz).1
 obtain⟨tb,tof,t',hte,-,-,htg,k0,k1,k2⟩:=(hr.up u hhi).i3 htl
 rw[ht]at htg;cases htg;obtain⟨tc,tw,t',htf,-,-,htg,m0⟩:=(hr2.up u hhi2).int htm
 rw[hz]at htg;cases htg;obtain⟨ta,hta⟩:∃k:Nat,t.a=k:=⟨t.a.toNat,by omega⟩
 obtain⟨tA,tB,tD⟩:=t
 simp only[]at *;subst hta;simp only[Int.toNat_natCast]at *
 simp only[Nat.zero_mul,Nat.add_zero]at k0 k1 k2
 rw[hte,htf];have v:=Up.alloc ((w.alloc (.cells #[.int .i64 0,.int .i64 0] 84)).alloc (.cells #[.int .i64 0,.int .i64 730499] 84)) (.cells #[.int .i64 (ta:Int),.int .i64 tB,.int .i64 tD] 172)
 have hB:=Bx.new ((w.alloc (.cells #[.int .i64 0,.int .i64 0] 84)).alloc (.cells #[.int .i64 0,.int .i64 730499] 84)) #[.int .i64 (ta:Int),.int .i64 tB,.int .i64 tD] 172
 rw[hsz2]at hB;have m0a:=v.cell m0
 replace hR:=hR.up v;replace hS:=hS.up v;replace u:=u.trans v;clear hr hr2 v hte htf;have hwt:IntKind.i64.wrap (tB-max 1 z)=tB-max 1 z:=IntWalk.i64_in _ (by omega)
 go_enter Tryz.func100,Tryz.ntmps100
 go_wp2_with fail
 generalize ((w.alloc (.cells #[.int .i64 0,.int .i64 0] 84)).alloc (.cells #[.int .i64 0,.int .i64 730499] 84)).alloc (.cells #[.int .i64 (ta:Int),.int .i64 tB,.int .i64 tD] 172)=X5 at *
 obtain⟨b0,b1,b2⟩:=hB.c3
 obtain⟨s0,s1⟩:=hS.c2
 obtain⟨f0,f1⟩:=hS.f2
 clear m0 k0 k1 k2;go_region_law (fail)
 all_goals
  try simp only[hwt]
  replace hS:=(hS.put 1 (.int .i64 (tB-max 1 z))).up ((Up.refl _).drew)
  replace hR:=(hR.other (b':=w.heap.size+1) (by omega) 1 (.int .i64 (tB-max 1 z))).up ((Up.refl _).drew)
  replace u:=(u.setCell (p:=⟨w.heap.size+1,1,none⟩) (by simp) (.int .i64 (tB-max 1 z))).drew
  simp only[List.set_cons_zero,List.set_cons_succ]at hS
  generalize (X5.setCell ⟨w.heap.size+1,1,none⟩ (.int .i64 (tB-max 1 z))).drew=X6 at *
  clear b0 b1 b2 s0 s1 f0 f1 m0a hB hwt;obtain⟨r0,r1⟩:=hR.c2
  obtain⟨z0,z1⟩:=hR.f2
  obtain⟨s0,s1⟩:=hS.c2
  go_wp2_with fail
  go_region_law (fail)
  all_goals
   go_wp2_with fail
   refine bodyPost_ret (v:=.tuple #[.agg #[.int .i64 0,.int .i64 (tB-max 1 z)],.bool (decide (0≤(tB-max 1 z)))]) (by simp[results,Tryz.results100,go_sem,r0,r1]) rfl ⟨rfl,by first|exact(u.setCell (by simp) _).setCell (by simp) _|exact((u.setCell (by simp) _).setCell (by simp) _).drew|exact((u.drew).setCell (by simp) _).setCell (by simp) _⟩
theorem l15Gap_10(SA WA:Option Addr)(st:List I3)(Y:List Int)(sc wc lo hi lo2 hi2:Nat)(w:World)(hr:RdI3 w lo hi SA st)(hhi:hi≤w.heap.size)(hr2:RdI w lo2 hi2 WA Y)(hhi2:hi2≤w.heap.size)(hn:st.length≤40)(_hyn:Y.length≤12)(j:Nat)(p:I3)(y:Int)(hp:st[j]?=some p)(hp0:0≤p.a)(hy:Y[p.a.toNat]?=some y)(hpd:0≤p.d∧p.d≤730499)(_hyb:-1≤y∧y≤1000000)(hys:decide (y<0)=true) :
 Calls Tryz.prog 100 #[.slice SA st.length sc,.slice WA Y.length wc,.int .i64 ((j:Int)+1)] w fun e w'=>e=.returned (.tuple #[.agg #[.int .i64 0,.int .i64 730499],.bool false])∧Up w w':=by
 have hR:=(Bx.new w #[.int .i64 0,.int .i64 0] 84).up (Up.alloc _ (.cells #[.int .i64 0,.int .i64 730499] 84))
 have hS:=Bx.new (w.alloc (.cells #[.int .i64 0,.int .i64 0] 84)) #[.int .i64 0,.int .i64 730499] 84
 have u:=(Up.alloc w (.cells #[.int .i64 0,.int .i64 0] 84)).allocs (.cells #[.int .i64 0,.int .i64 730499] 84)
 have hsz:(w.alloc (.cells #[.int .i64 0,.int .i64 0] 84)).heap.size=w.heap.size+1:=by simp
 rw[hsz]at hS;have hsz2:((w.alloc (.cells #[.int .i64 0,.int .i64 0] 84)).alloc (.cells #[.int .i64 0,.int .i64 730499] 84)).heap.size=w.heap.size+2:=by simp
 clear hsz;have HR:=qh hr
 have HR2:=qh hr2
 have hpl:=(List.getElem?_eq_some_iff.1 hp).1
 have hpm:=(List.getElem?_eq_some_iff.1 hy).1
 obtain⟨pb,pof,p',hpe,-,-,hpg,q0,q1,q2⟩:=(hr.up u hhi).i3 hpl
 rw[hp]at hpg;cases hpg;obtain⟨pc,pw,p',hpf,-,-,hpg,g0⟩:=(hr2.up u hhi2).int hpm
 rw[hy]at hpg;cases hpg;obtain⟨pa,hpa⟩:∃k:Nat,p.a=k:=⟨p.a.toNat,by omega⟩
 obtain⟨pA,pB,pD⟩:=p
 simp only[]at *;subst hpa;simp only[Int.toNat_natCast]at *
 have hjx:IntKind.i64.wrap ((j:Int)+1-1)=(j:Int):=by rw[IntWalk.i64_in _ (by omega)];omega
 have hj1:decide (0<(j:Int)+1)=true:=decide_eq_true (by omega)
 have hj40:j<40:=by omega
 have HPE:=qh hpe
 have HPF:=qh hpf
 rw[hpe,hpf];have v:=Up.alloc ((w.alloc (.cells #[.int .i64 0,.int .i64 0] 84)).alloc (.cells #[.int .i64 0,.int .i64 730499] 84)) (.cells #[.int .i64 (pa:Int),.int .i64 pB,.int .i64 pD] 172)
 have hB:=Bx.new ((w.alloc (.cells #[.int .i64 0,.int .i64 0] 84)).alloc (.cells #[.int .i64 0,.int .i64 730499] 84)) #[.int .i64 (pa:Int),.int .i64 pB,.int .i64 pD] 172
 rw[hsz2]at hB;have g0a:=v.cell g0
 replace hR:=hR.up v;replace hS:=hS.up v;replace u:=u.trans v;clear hr hr2 hpe hpf v;obtain⟨r0,r1⟩:=hR.c2
 obtain⟨z0,z1⟩:=hR.f2
 obtain⟨s0,s1⟩:=hS.c2
 go_enter Tryz.func100,Tryz.ntmps100
 go_wp2_with fail
 refine bodyPost_ret (v:=.tuple #[.agg #[.int .i64 0,.int .i64 730499],.bool false]) (by simp[results,Tryz.results100,go_sem]) rfl ⟨rfl,by repeat (first|exact Up.alloc _ _|exact Up.refl _|refine Up.allocs ?_ _|refine Up.setCell ?_ (by simp;try omega) _)⟩
end Go.Proofs.YtihcmhmanfobcaaGreatDoor
