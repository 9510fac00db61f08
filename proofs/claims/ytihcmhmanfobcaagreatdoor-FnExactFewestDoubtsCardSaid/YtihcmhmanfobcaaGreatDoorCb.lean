/- The calendar, the reference's: numbers of dates, dates of numbers, Easter, feasts, styles, reigns, indictions. -/
import Derived.Test.YtihcmhmanfobcaaGreatDoorVd
import Derived.Test.YtihcmhmanfobcaaGreatDoorVg
import Derived.Deep.Cut
import Derived.Deep.DeepCutAuto
import Derived.Deep.LoopGhost
import Derived.Deep.CutBlock
import Derived.Deep.RegionHeld3
import Derived.StillTailTactics
set_option maxHeartbeats 4000000
set_option maxRecDepth 100000
namespace Go.Proofs.YtihcmhmanfobcaaGreatDoor
open Go.RowKit Go.Sort
theorem cum_bd(y:Int)(k:Nat)(h:k≤12):0≤cum y k∧cum y k≤366:=by
 have h1:=cum_mono y 0 k (by omega)
 have h2:=cum_mono y k 12 h
 have h3:=cum_12 y
 have h4:cum y 0=0:=rfl
 split at h3<;>omega
theorem num_end{y m d:Int}{j:Nat}(h:(j:Int)+1=m):365*(y-1)+(y-1)/4+d-1+cum y j=num y m d:=by
 subst h;rw[num_cum];unfold ny;rfl
theorem l01Number_any(y m d:Int)(w:World)(hy:1≤y)(hy2:y≤2001)(hm:1≤m)(hm2:m≤12)(hd:1≤d)(hd2:d≤31) :
 Calls Tryz.prog 234 #[.agg #[.int .i64 y,.int .i64 m,.int .i64 d],.bool false] w fun e w'=>e=.returned (.int .i64 (num y m d))∧Up w w':=by
 have u:=Up.alloc w (.cells #[.int .i64 y,.int .i64 m,.int .i64 d] 265)
 have hB:=Bx.new w #[.int .i64 y,.int .i64 m,.int .i64 d] 265
 go_enter Tryz.func234,Tryz.ntmps234
 go_wp2_with fail
 generalize w.alloc (.cells #[.int .i64 y,.int .i64 m,.int .i64 d] 265)=W1 at *
 obtain⟨y0,y1,y2⟩:=hB.c3
 go_wp2;go_loop [6,7] (fun n k=>∃j:Nat,(j:Int)+1≤m∧k=.int .i64 (j+1)∧n=.int .i64 (365*(y-1)+(y-1)/4+d-1+cum y j)) (fun _ k=>(m-intOf k).toNat)
 case atStart=>exact⟨0,by omega,rfl,by simp[cum]⟩
 case round =>
  obtain⟨j,hj,rfl,rfl⟩:=hrel
  have hc:=cum_bd y j (by omega)
  have hl:=ml_bd y (j+1)
  by_cases hlt:(j:Int)+1<m
  ·have HS:=qh (cum_s y j)
   go_wp2_with (go_at_call 269;refine(l01Length_any _ _ _).mono ?_;rintro e w' ⟨rfl,rfl⟩)
   go_round
   case rel=>exact⟨j+1,by omega,by go_num,by rw[HS.out];go_num⟩
   case measure=>simp[intOf];omega
  ·have HE:=qh (num_end (y:=y) (d:=d) (show(j:Int)+1=m by omega))
   go_wp2;go_ret;exact⟨ret_int HE.out,u⟩
theorem num_first{y m:Int}:num y m 1=ny y+cum y (m-1).toNat:=by unfold num;omega
theorem num_next{y m:Int}(_h:1≤m):num y (m+1) 1=num y m 1+ml y m:=by
 rw[num_first,num_first,show(m+1-1).toNat=(m-1).toNat+1 by omega,cum_s,show(((m-1).toNat:Nat):Int)+1=m by omega];omega
theorem num_mono1{y a b:Int}(_h:1≤a)(h2:a≤b):num y a 1≤num y b 1:=by
 rw[num_first,num_first];have:=cum_mono y (a-1).toNat (b-1).toNat (by omega)
 omega
theorem l01Date_any(n:Int)(w:World)(h0:0≤n)(h1:n≤730499) :
 Calls Tryz.prog 229 #[.int .i64 n,.bool false] w fun e w'=>e=.returned (.agg #[.int .i64 (yOf n),.int .i64 (dM n),.int .i64 (dD n)])∧Up w w':=by
 have hyb:=yOf_bd h0 h1
 have hd:=qh (date_bd n)
 have hyn:=qh (yOf_ny n)
 obtain⟨Y,hY⟩:∃z,z=yOf n:=⟨_,rfl⟩
 obtain⟨M,hM⟩:∃z,z=dM n:=⟨_,rfl⟩
 rw[← hY]at hyb;have HY:=qh hY
 have HM:=qh hM
 clear hY hM;have q0:0≤n/366∧n/366≤2000:=by omega
 have u:Up w ((w.alloc (.cells #[.int .i64 0,.int .i64 0,.int .i64 0] 265)).alloc (.cells #[.int .i64 (n/366+1),.int .i64 1,.int .i64 1] 265)):=(Up.alloc w _).allocs _
 have hR:=(Bx.new w #[.int .i64 0,.int .i64 0,.int .i64 0] 265).up (Up.alloc _ (.cells #[.int .i64 (n/366+1),.int .i64 1,.int .i64 1] 265))
 have hD:Bx ((w.alloc (.cells #[.int .i64 0,.int .i64 0,.int .i64 0] 265)).alloc (.cells #[.int .i64 (n/366+1),.int .i64 1,.int .i64 1] 265)) (w.heap.size+1) [.int .i64 (n/366+1),.int .i64 1,.int .i64 1]:=by
  have:=Bx.new (w.alloc (.cells #[.int .i64 0,.int .i64 0,.int .i64 0] 265)) #[.int .i64 (n/366+1),.int .i64 1,.int .i64 1] 265
  simpa using this
 have hsz:w.heap.size+1<((w.alloc (.cells #[.int .i64 0,.int .i64 0,.int .i64 0] 265)).alloc (.cells #[.int .i64 (n/366+1),.int .i64 1,.int .i64 1] 265)).heap.size:=by simp
 go_enter Tryz.func229,Tryz.ntmps229
 go_upto_block 0 with(fail)
 generalize (w.alloc (.cells #[.int .i64 0,.int .i64 0,.int .i64 0] 265)).alloc (.cells #[.int .i64 (n/366+1),.int .i64 1,.int .i64 1] 265)=W1 at *
 have q1:ny (n/366+1)≤n:=by unfold ny;omega
 have q2:n/366+1≤Y:=by
  rw[HY.out];have:=hyn.out
  rcases Int.lt_or_le (yOf n) (n/366+1) with h|h
  ·have:=ny_mono (show yOf n+1≤n/366+1 by omega);omega
  ·exact h
 have Q1:=qh q1
 clear q1;go_cut [16] (fun _ wx=>∃Z:World,Z=wx∧Bx Z w.heap.size [.int .i64 0,.int .i64 0,.int .i64 0]∧Bx Z (w.heap.size+1) [.int .i64 Y,.int .i64 1,.int .i64 1]∧w.heap.size+1<Z.heap.size∧Up w Z)
 case first =>
  go_wp2_with fail
  go_loopg [16] (2000-(n/366+1)).toNat (fun k t wr=>∃y:Int,1≤y∧y≤Y∧Hid (ny y≤n)∧k=(2000-y).toNat∧Bx wr w.heap.size [.int .i64 0,.int .i64 0,.int .i64 0]∧Bx wr (w.heap.size+1) [.int .i64 y,.int .i64 1,.int .i64 1]∧w.heap.size+1<wr.heap.size∧Up w wr)
  case atStart=>exact⟨_,by omega,q2,Q1,rfl,hR,hD,hsz,u⟩
  case round =>
   clear hR hD hsz u;obtain⟨y,hy1,hyY,hyn',rfl,hR,hD,hsz,u⟩:=hrel
   obtain⟨d0,d1,d2⟩:=hD.c3
   by_cases hlt:y<2000
   ·by_cases hc:num (y+1) 1 1≤n
    ·have hcd:decide (num (y+1) 1 1≤n)=true:=by simpa using hc
     go_wp2_with fail
     refine(l01Number_any (y+1) 1 1 _ (by omega) (by omega) (by omega) (by omega) (by omega) (by omega)).mono ?_
     rintro e w1 ⟨rfl,v⟩
     replace u:=u.trans v;replace hR:=hR.up v;replace hD:=hD.up v;replace hsz:=Nat.lt_of_lt_of_le hsz v.size;clear v;obtain⟨d0,d1,d2⟩:=hD.c3
     obtain⟨f0,f1,f2⟩:=hD.f3
     have HN:=qh (show ny (y+1)≤n by have:=hc;rw[num_first]at this;simpa[cum] using this)
     have HL:=qh (show y+1≤Y by
      have h1:=HN.out
      have h2:=hyn.out
      rw[HY.out];rcases Int.lt_or_le (yOf n) (y+1) with h|h
      ·have:=ny_mono (show yOf n+1≤y+1 by omega);omega
      ·exact h)
     clear hc;go_wp2;go_roundg (2000-(y+1)).toNat
     case measure=>omega
     case rel =>
      exact⟨y+1,by omega,HL.out,HN,rfl,hR.other (by omega) _ _,by simpa using hD.put 0 (.int .i64 (y+1)),by simpa using hsz,u.setCell (by simp) _⟩
    ·have hcd:decide (num (y+1) 1 1≤n)=false:=by simpa using hc
     have HY':=qh (show y=Y by
      have:=hc
      rw[num_first]at this;have h2:n<ny (y+1):=by simpa[cum] using this
      rw[HY.out];exact yOf_eq hyn'.out h2)
     clear hc;go_wp2_with fail
     refine(l01Number_any (y+1) 1 1 _ (by omega) (by omega) (by omega) (by omega) (by omega) (by omega)).mono ?_
     rintro e w1 ⟨rfl,v⟩
     replace u:=u.trans v;replace hR:=hR.up v;replace hD:=hD.up v;replace hsz:=Nat.lt_of_lt_of_le hsz v.size;clear v;obtain⟨rfl⟩:=HY'.out
     go_wp2_with fail
     go_meet
     exact⟨_,rfl,hR,hD,hsz,u⟩
   ·have HY':=qh (show y=Y by omega)
    obtain⟨rfl⟩:=HY'.out
    go_wp2_with fail
    go_meet
    exact⟨_,rfl,hR,hD,hsz,u⟩
 case rest =>
 clear hR hD hsz u;obtain⟨Z,hZ,hR,hD,hsz,u⟩:=hcut
 subst hZ;have m0:=qh (show 1≤M∧M≤12 by rw[HM.out];exact⟨hd.out.1,hd.out.2.1⟩)
 obtain⟨mm1,mm2⟩:=m0.out
 have hM':=qh (show num Y M 1≤n∧n<num Y M 1+ml Y M by
  have h:=hd.out
  rw[HY.out,HM.out];have e:=h.2.2.2.2
  unfold num at e ⊢
  omega)
 go_upto_block 2 with(fail)
 go_cut [33] (fun _ wx=>∃Z2:World,Z2=wx∧Bx Z2 w.heap.size [.int .i64 0,.int .i64 0,.int .i64 0]∧Bx Z2 (w.heap.size+1) [.int .i64 Y,.int .i64 M,.int .i64 1]∧w.heap.size+1<Z2.heap.size∧Up w Z2)
 case first =>
  go_wp2_with fail
  go_loopg [33] 11 (fun k t wr=>∃m:Int,1≤m∧m≤M∧k=(12-m).toNat∧Hid (num Y m 1≤n)∧Bx wr w.heap.size [.int .i64 0,.int .i64 0,.int .i64 0]∧Bx wr (w.heap.size+1) [.int .i64 Y,.int .i64 m,.int .i64 1]∧w.heap.size+1<wr.heap.size∧Up w wr)
  case atStart=>exact⟨1,by omega,by omega,rfl,qh (by have:=hyn.out;rw[← HY.out]at this;rw[num_first];simpa[cum] using this.1),hR,hD,hsz,u⟩
  case round =>
   clear hR hD hsz u;obtain⟨m,hm1,hmM,rfl,hmn,hR,hD,hsz,u⟩:=hrel
   obtain⟨d0,d1,d2⟩:=hD.c3
   by_cases hlt:m<12
   ·by_cases hc:num Y (m+1) 1≤n
    ·have hcd:decide (num Y (m+1) 1≤n)=true:=by simpa using hc
     go_wp2_with fail
     refine(l01Number_any Y (m+1) 1 _ (by omega) (by omega) (by omega) (by omega) (by omega) (by omega)).mono ?_
     rintro e w1 ⟨rfl,v⟩
     replace u:=u.trans v;replace hR:=hR.up v;replace hD:=hD.up v;replace hsz:=Nat.lt_of_lt_of_le hsz v.size;clear v;obtain⟨d0,d1,d2⟩:=hD.c3
     obtain⟨f0,f1,f2⟩:=hD.f3
     have HN:=qh hc
     have HL:=qh (show m+1≤M by
      rcases Int.lt_or_le M (m+1) with h|h
      ·obtain rfl:m=M:=by omega
       have h1:=hM'.out.2
       have h2:=num_next (y:=Y) (m:=m) hm1
       omega
      ·exact h)
     clear hc;go_wp2;go_roundg (12-(m+1)).toNat
     case measure=>omega
     case rel =>
      exact⟨m+1,by omega,HL.out,rfl,HN,hR.other (by omega) _ _,by simpa using hD.put 1 (.int .i64 (m+1)),by simpa using hsz,u.setCell (by simp) _⟩
    ·have hcd:decide (num Y (m+1) 1≤n)=false:=by simpa using hc
     have HM2:=qh (show m=M by
      rcases Int.lt_or_le m M with h|h
      ·exfalso
       have h1:=num_mono1 (y:=Y) (a:=m+1) (b:=M) (by omega) (by omega)
       have h2:=hM'.out.1
       omega
      ·omega)
     clear hc;go_wp2_with fail
     refine(l01Number_any Y (m+1) 1 _ (by omega) (by omega) (by omega) (by omega) (by omega) (by omega)).mono ?_
     rintro e w1 ⟨rfl,v⟩
     replace u:=u.trans v;replace hR:=hR.up v;replace hD:=hD.up v;replace hsz:=Nat.lt_of_lt_of_le hsz v.size;clear v;obtain⟨rfl⟩:=HM2.out
     go_wp2_with fail
     go_meet
     exact⟨_,rfl,hR,hD,hsz,u⟩
   ·have HM2:=qh (show m=M by omega)
    obtain⟨rfl⟩:=HM2.out
    go_wp2_with fail
    go_meet
    exact⟨_,rfl,hR,hD,hsz,u⟩
 case rest =>
 clear hR hD hsz u;obtain⟨Z2,hZ,hR,hD,hsz,u⟩:=hcut
 subst hZ;obtain⟨d0,d1,d2⟩:=hD.c3
 go_wp2_with fail
 refine(l01Number_any Y M 1 _ (by omega) (by omega) (by omega) (by omega) (by omega) (by omega)).mono ?_
 rintro e w1 ⟨rfl,v⟩
 replace u:=u.trans v;replace hR:=hR.up v;replace hD:=hD.up v;replace hsz:=Nat.lt_of_lt_of_le hsz v.size;clear v;obtain⟨N1,hN1⟩:∃z,z=num Y M 1:=⟨_,rfl⟩
 have bN:=num_bd (y:=Y) (m:=M) (d:=1) (by omega) (by omega) (by omega) (by omega) (by omega) (by omega)
 have HD:=qh (show n-num Y M 1+1=dD n by
  have e:=hd.out.2.2.2.2
  rw[← HY.out,← HM.out]at e;unfold num at e ⊢
  omega)
 rw[← hN1]at HD bN ⊢
 clear hN1;obtain⟨d0,d1,d2⟩:=hD.c3
 obtain⟨f0,f1,f2⟩:=hD.f3
 obtain⟨r0,r1,r2⟩:=hR.c3
 obtain⟨g0,g1,g2⟩:=hR.f3
 go_wp2;refine bodyPost_ret (v:=.agg #[.int .i64 Y,.int .i64 M,.int .i64 (n-N1+1)]) (by simp[results,Tryz.results229,go_sem,r0,r1,r2]) rfl ⟨?_,?_⟩
 ·rw[HD.out,HY.out,HM.out]
 ·iterate 4 refine Up.setCell ?_ (by simp) _
  exact u
theorem l01Old_any(n:Int)(w:World)(h0:0≤n)(h1:n≤730499) :
 Calls Tryz.prog 186 #[.int .i64 n] w fun e w'=>e=.returned (.agg #[.int .i64 (yOf n),.int .i64 (dM n),.int .i64 (dD n)])∧Up w w':=by
 have u:Up w (w.alloc (.cells #[.int .i64 0,.int .i64 0,.int .i64 0] 265)):=Up.alloc w _
 have hR:=Bx.new w #[.int .i64 0,.int .i64 0,.int .i64 0] 265
 go_enter Tryz.func186,Tryz.ntmps186
 go_wp2_with fail
 refine(l01Date_any n _ h0 h1).mono ?_
 rintro e w1 ⟨rfl,v⟩
 replace hR:=hR.up v;replace u:=u.trans v;clear v;obtain⟨r0,r1,r2⟩:=hR.c3
 obtain⟨g0,g1,g2⟩:=hR.f3
 go_wp2;refine bodyPost_ret (v:=.agg #[.int .i64 (yOf n),.int .i64 (dM n),.int .i64 (dD n)]) (by simp[results,Tryz.results186,go_sem,r0,r1,r2]) rfl ⟨rfl,?_⟩
 iterate 3 refine Up.setCell ?_ (by simp) _
 exact u
theorem run_date0(a b c:Int):∀w:World,(Instr.field 265 (.agg #[.int .i64 a,.int .i64 b,.int .i64 c]) 0).run Tryz.prog w=.ok (.int .i64 a) w:=fun _=>by kernel_rfl
theorem l01Weekday_any(n:Int)(w:World)(h:0≤n)(h2:n≤800000):Calls Tryz.prog 191 #[.int .i64 n] w fun e w'=>e=.returned (.int .i64 (wkN n))∧w=w':=by
 go_enter Tryz.func191,Tryz.ntmps191
 go_wp2;go_ret;exact⟨rfl,rfl⟩
theorem l04Old_any(y:Int)(w:World)(h:1≤y)(h2:y≤2001):Calls Tryz.prog 267 #[.int .i64 y] w fun e w'=>e=.returned (.agg #[.int .i64 y,.int .i64 (eaM y),.int .i64 (eaD y)])∧Up w w':=by
 have a1:0≤y % 19∧y % 19≤18:=by omega
 have a2:0≤(19*(y % 19)+15) % 30∧(19*(y % 19)+15) % 30≤29:=by omega
 have a3:0≤y % 4∧y % 4≤3:=by omega
 have a4:0≤y % 7∧y % 7≤6:=by omega
 have a5:0≤(2*(y % 4)+4*(y % 7)-(19*(y % 19)+15) % 30+34) % 7∧(2*(y % 4)+4*(y % 7)-(19*(y % 19)+15) % 30+34) % 7≤6:=by omega
 go_enter Tryz.func267,Tryz.ntmps267
 go_wp2;exact bodyPost_ret (v:=.agg #[.int .i64 y,.int .i64 (eaM y),.int .i64 (eaD y)]) (by simp[results,Tryz.results267,go_sem,eaM,eaD,esS]) rfl ⟨rfl,by repeat (first|exact Up.alloc _ _|refine Up.allocs ?_ _|refine Up.setCell ?_ (by simp;try omega) _)⟩
theorem ea_num(y:Int):num y (eaM y) (eaD y)=eaN y:=rfl
theorem es_bd{y:Int}(_h:0≤y):114≤esS y∧esS y≤149:=by unfold esS;omega
theorem eaN_bd{y:Int}(h:1≤y)(h2:y≤2001):80≤eaN y∧eaN y≤731000:=by
 have e:=ea_bd (y:=y) (by omega)
 have h1:=num_bd (y:=y) (m:=eaM y) (d:=eaD y) h h2 (by omega) (by omega) e.2.2.1 e.2.2.2
 refine⟨?_,h1.2⟩
 have hs:=es_bd (y:=y) (by omega)
 have h3:22≤(eaM y-3)*31+eaD y:=by unfold eaM eaD;omega
 have h4:eaM y=3∨eaM y=4:=by omega
 have c3:cum y 2=31+ml y 2:=by rw[cum_s,cum_s];simp[cum,ml]
 have c4:cum y 3=31+ml y 2+31:=by rw[cum_s,c3];simp[ml]
 have hm:=ml_bd y 2
 have hny:0≤ny y:=by unfold ny;omega
 unfold eaN num
 rcases h4 with h4|h4
 ·rw[h4]at h3 ⊢
  rw[show((3:Int)-1).toNat=2 from rfl,c3];omega
 ·rw[h4]at h3 ⊢
  rw[show((4:Int)-1).toNat=3 from rfl,c4];omega
theorem fe14{k:Nat}(h:k<14):([.int .i64 1,.int .i64 1,.int .i64 2,.int .i64 3,.int .i64 6,.int .i64 6,.int .i64 8,.int .i64 8,.int .i64 9,.int .i64 11,.int .i64 11,.int .i64 11,.int .i64 12,.int .i64 12]:List Value)[k]?=some (.int .i64 (feM k)) ∧
 ([.int .i64 1,.int .i64 6,.int .i64 2,.int .i64 25,.int .i64 24,.int .i64 29,.int .i64 10,.int .i64 15,.int .i64 29,.int .i64 1,.int .i64 11,.int .i64 30,.int .i64 6,.int .i64 25]:List Value)[k]?=some (.int .i64 (feD k))∧1≤feM k∧feM k≤12∧1≤feD k∧feD k≤31:=by
 have hk:k=0∨k=1∨k=2∨k=3∨k=4∨k=5∨k=6∨k=7∨k=8∨k=9∨k=10∨k=11∨k=12∨k=13:=by omega
 rcases hk with rfl|rfl|rfl|rfl|rfl|rfl|rfl|rfl|rfl|rfl|rfl|rfl|rfl|rfl<;>exact⟨rfl,rfl,by decide,by decide,by decide,by decide⟩
theorem fe6{k:Nat}(h:k<6):([.int .i64 (-46),.int .i64 (-7),.int .i64 0,.int .i64 39,.int .i64 49,.int .i64 56]:List Value)[k]?=some (.int .i64 (feO ((k:Int)+14)))∧-46≤feO ((k:Int)+14)∧feO ((k:Int)+14)≤56:=by
 have hk:k=0∨k=1∨k=2∨k=3∨k=4∨k=5:=by omega
 rcases hk with rfl|rfl|rfl|rfl|rfl|rfl<;>exact⟨rfl,by decide,by decide⟩
theorem l05Day_a(k:Nat)(y:Int)(w:World)(hk:k<14)(hy:1≤y)(hy2:y≤2000) :
 Calls Tryz.prog 230 #[.int .i64 (k:Int),.int .i64 y] w fun e w'=>e=.returned (.int .i64 (feN k y))∧Up w w':=by
 obtain⟨f1,f2,g1,g2,g3,g4⟩:=fe14 hk
 have hE:=qh (show feN k y=num y (feM k) (feD k) by unfold feN;rw[if_pos (by omega)])
 obtain⟨M,hM⟩:∃z,z=feM k:=⟨_,rfl⟩
 obtain⟨D,hD⟩:∃z,z=feD k:=⟨_,rfl⟩
 rw[← hM]at f1 g1 g2 hE;rw[← hD]at f2 g3 g4 hE;clear hM hD;have u:Up w ((w.alloc (.cells #[.int .i64 1,.int .i64 1,.int .i64 2,.int .i64 3,.int .i64 6,.int .i64 6,.int .i64 8,.int .i64 8,.int .i64 9,.int .i64 11,.int .i64 11,.int .i64 11,.int .i64 12,.int .i64 12] 2)).alloc (.cells #[.int .i64 1,.int .i64 6,.int .i64 2,.int .i64 25,.int .i64 24,.int .i64 29,.int .i64 10,.int .i64 15,.int .i64 29,.int .i64 1,.int .i64 11,.int .i64 30,.int .i64 6,.int .i64 25] 2)):=(Up.alloc w _).allocs _
 have c1:=((Bx.new w #[.int .i64 1,.int .i64 1,.int .i64 2,.int .i64 3,.int .i64 6,.int .i64 6,.int .i64 8,.int .i64 8,.int .i64 9,.int .i64 11,.int .i64 11,.int .i64 11,.int .i64 12,.int .i64 12] 2).up (Up.alloc _ (.cells #[.int .i64 1,.int .i64 6,.int .i64 2,.int .i64 25,.int .i64 24,.int .i64 29,.int .i64 10,.int .i64 15,.int .i64 29,.int .i64 1,.int .i64 11,.int .i64 30,.int .i64 6,.int .i64 25] 2)) k _ f1).1
 have c2:=(Bx.new (w.alloc (.cells #[.int .i64 1,.int .i64 1,.int .i64 2,.int .i64 3,.int .i64 6,.int .i64 6,.int .i64 8,.int .i64 8,.int .i64 9,.int .i64 11,.int .i64 11,.int .i64 11,.int .i64 12,.int .i64 12] 2)) #[.int .i64 1,.int .i64 6,.int .i64 2,.int .i64 25,.int .i64 24,.int .i64 29,.int .i64 10,.int .i64 15,.int .i64 29,.int .i64 1,.int .i64 11,.int .i64 30,.int .i64 6,.int .i64 25] 2 k _ f2).1
 clear f1 f2;have hlt:decide ((k:Int)<14)=true:=by simp;omega
 go_enter Tryz.func230,Tryz.ntmps230
 go_wp2_with fail
 generalize (w.alloc (.cells #[.int .i64 1,.int .i64 1,.int .i64 2,.int .i64 3,.int .i64 6,.int .i64 6,.int .i64 8,.int .i64 8,.int .i64 9,.int .i64 11,.int .i64 11,.int .i64 11,.int .i64 12,.int .i64 12] 2)).alloc (.cells #[.int .i64 1,.int .i64 6,.int .i64 2,.int .i64 25,.int .i64 24,.int .i64 29,.int .i64 10,.int .i64 15,.int .i64 29,.int .i64 1,.int .i64 11,.int .i64 30,.int .i64 6,.int .i64 25] 2)=W1 at *
 have c2':W1.cell? ⟨w.heap.size+1,k,none⟩=some (.int .i64 D):=by simpa using c2
 have C1:=cell_regrown c1
 have C2:=cell_regrown c2'
 have cN:∀dd os,Calls Tryz.prog 234 #[.agg #[.int .i64 y,.int .i64 M,.int .i64 D],.bool false] (grow (redrawn W1 dd) os) fun e w''=>e=.returned (.int .i64 (num y M D))∧∃p:Regrown,w''=grow (redrawn W1 p.d) p.os:=fun dd os=>Calls.regrown_of (l01Number_any y M D _ hy (by omega) g1 g2 g3 g4)
 clear c1 c2 c2';refine wp_region_quiet_below (by kernel_rfl) (by kernel_rfl) ?_
 repeat (first|go_big_quiet_step ((go_at_call 234;exact cN _ _))|quiet_step ((go_at_call 234;exact cN _ _)))
 refine wpQuiet_nil ?_
 intro w2 hw2
 obtain⟨⟨dq,osq⟩,hw2⟩:=hw2
 have hup2:Up W1 w2:=by rw[hw2];exact below_regrown _ _ _
 clear hw2 C1 C2 cN;go_wp2;go_ret;exact⟨ret_int hE.out.symm,u.trans hup2⟩
theorem al_cell{W w1:World}{o:Obj}{k:Nat}{v:Value}(h:Up (W.alloc o) w1)(c:∀X:World,(X.alloc o).cell? ⟨X.heap.size,k,none⟩=some v):w1.cell? ⟨W.heap.size,k,none⟩=some v:=h.cell (c W)
theorem al_cellD{W w1:World}{o:Obj}{k:Nat}{v:Value}(h:Up (W.alloc o).drew w1)(c:∀X:World,(X.alloc o).cell? ⟨X.heap.size,k,none⟩=some v):w1.cell? ⟨W.heap.size,k,none⟩=some v:=h.cell (by rw[World.cell?_drew];exact c W)
theorem l05Day_b(k:Nat)(y:Int)(w:World)(hk:k<6)(hy:1≤y)(hy2:y≤2000) :
 Calls Tryz.prog 230 #[.int .i64 ((k:Int)+14),.int .i64 y] w fun e w'=>e=.returned (.int .i64 (feN ((k:Int)+14) y))∧Up w w':=by
 obtain⟨f1,g1,g2⟩:=fe6 hk
 have hE:=qh (show feN ((k:Int)+14) y=eaN y+feO ((k:Int)+14) by unfold feN;rw[if_neg (by omega)])
 have bE:=eaN_bd hy (show y≤2001 by omega)
 have e4:=ea_bd (y:=y) (by omega)
 have HN:=qh (ea_num y)
 obtain⟨O,hO⟩:∃z,z=feO ((k:Int)+14):=⟨_,rfl⟩
 rw[← hO]at f1 g1 g2 hE;clear hO;obtain⟨N,hN⟩:∃z,z=eaN y:=⟨_,rfl⟩
 rw[← hN]at bE HN hE;clear hN;have hlt:decide (((k:Int)+14)<14)=false:=by simp;omega
 have uA:Up w ((w.alloc (.cells #[.int .i64 1,.int .i64 1,.int .i64 2,.int .i64 3,.int .i64 6,.int .i64 6,.int .i64 8,.int .i64 8,.int .i64 9,.int .i64 11,.int .i64 11,.int .i64 11,.int .i64 12,.int .i64 12] 2)).alloc (.cells #[.int .i64 1,.int .i64 6,.int .i64 2,.int .i64 25,.int .i64 24,.int .i64 29,.int .i64 10,.int .i64 15,.int .i64 29,.int .i64 1,.int .i64 11,.int .i64 30,.int .i64 6,.int .i64 25] 2)):=(Up.alloc w _).allocs _
 go_enter Tryz.func230,Tryz.ntmps230
 go_wp2_with fail
 generalize (w.alloc (.cells #[.int .i64 1,.int .i64 1,.int .i64 2,.int .i64 3,.int .i64 6,.int .i64 6,.int .i64 8,.int .i64 8,.int .i64 9,.int .i64 11,.int .i64 11,.int .i64 11,.int .i64 12,.int .i64 12] 2)).alloc (.cells #[.int .i64 1,.int .i64 6,.int .i64 2,.int .i64 25,.int .i64 24,.int .i64 29,.int .i64 10,.int .i64 15,.int .i64 29,.int .i64 1,.int .i64 11,.int .i64 30,.int .i64 6,.int .i64 25] 2)=W1 at *
 have hB:∀W:World,(W.alloc (.cells #[.int .i64 (-46),.int .i64 (-7),.int .i64 0,.int .i64 39,.int .i64 49,.int .i64 56] 2)).cell? ⟨W.heap.size,k,none⟩=some (.int .i64 O):=fun W=>(Bx.new W _ _ k _ f1).1
 clear f1;have hk6:(k:Int)<6:=by omega
 have cN:=fun wx=>l01Number_any y (eaM y) (eaD y) wx hy (by omega) (by omega) (by omega) e4.2.2.1 e4.2.2.2
 simp only[HN.out]at cN
 have CN:=qh cN
 clear cN;have hwk:IntKind.i64.wrap (k:Int)=(k:Int):=IntWalk.i64_in _ (by omega)
 go_region_law (first
  |(go_simp;go_at_call 267;with_reducible refine(l04Old_any y _ hy (by omega)).mono ?_;rintro e w1 ⟨rfl,v1⟩;have U1:Up w w1:=(by first|exact uA.trans v1|exact uA.drew.trans v1|exact(uA.allocs _).trans v1|exact(uA.allocs _).drew.trans v1);(first|have q1:=al_cell v1 hB|have q1:=al_cellD v1 hB|skip))
  |(go_simp;go_at_call 234;with_reducible refine(CN.out _).mono ?_;rintro e w2 ⟨rfl,v2⟩;have U2:Up w w2:=(by first|exact U1.trans v2|exact U1.drew.trans v2|exact(U1.allocs _).trans v2|exact(U1.allocs _).drew.trans v2);(first|have q2:=al_cell v2 hB|have q2:=al_cellD v2 hB|skip);try have q3:=v2.cell q1))
 all_goals (go_wp2;go_ret;exact⟨ret_int (by first|exact hE.out.symm|(rw[IntWalk.i64_in _ (by omega)];exact hE.out.symm)),by first|exact U2|exact U2.drew|exact U2.allocs _|exact(U2.allocs _).drew⟩)
theorem l05Day_any(f y:Int)(w:World)(hf:0≤f)(hf2:f≤19)(hy:1≤y)(hy2:y≤2000) :
 Calls Tryz.prog 230 #[.int .i64 f,.int .i64 y] w fun e w'=>e=.returned (.int .i64 (feN f y))∧Up w w':=by
 rcases Int.lt_or_le f 14 with h|h
 ·obtain⟨k,rfl⟩:∃k:Nat,f=k:=⟨f.toNat,by omega⟩
  exact l05Day_a k y w (by omega) hy hy2
 ·obtain⟨k,hk⟩:∃k:Nat,f=(k:Int)+14:=⟨(f-14).toNat,by omega⟩
  subst hk;exact l05Day_b k y w (by omega) hy hy2
theorem feN_bd{f y:Int}(hf:0≤f)(hf2:f≤19)(hy:1≤y)(hy2:y≤2000):0≤feN f y∧feN f y≤731100:=by
 rcases Int.lt_or_le f 14 with h|h
 ·obtain⟨k,rfl⟩:∃k:Nat,f=k:=⟨f.toNat,by omega⟩
  obtain⟨-,-,g1,g2,g3,g4⟩:=fe14 (k:=k) (by omega)
  have:=num_bd hy (by omega) g1 g2 g3 g4
  unfold feN;rw[if_pos h];omega
 ·obtain⟨k,hk⟩:∃k:Nat,f=(k:Int)+14:=⟨(f-14).toNat,by omega⟩
  subst hk;obtain⟨-,g1,g2⟩:=fe6 (k:=k) (by omega)
  have:=eaN_bd hy (by omega)
  unfold feN;rw[if_neg (by omega)];omega
theorem l05Related_any(f r k y:Int)(w:World)(hf:0≤f)(hf2:f≤19)(hr:0≤r)(hr2:r≤4)(hk:0≤k)(hk2:k≤6)(hy:1≤y)(hy2:y≤2000) :
 Calls Tryz.prog 187 #[.int .i64 f,.int .i64 r,.int .i64 k,.int .i64 y] w fun e w'=>e=.returned (.int .i64 (rlN f r k y))∧Up w w':=by
 have cD:=fun wx=>l05Day_any f y wx hf hf2 hy hy2
 have bF:=feN_bd hf hf2 hy hy2
 have HE:=qh (show rlN f r k y=if r=1 then feN f y-1 else if r=2 then feN f y+7 else if r=3 then feN f y+1+(k-wkN (feN f y)+13) % 7
  else if r=4 then feN f y-1-(wkN (feN f y)-k+13) % 7 else feN f y from rfl)
 obtain⟨N,hN⟩:∃z,z=feN f y:=⟨_,rfl⟩
 rw[← hN]at bF HE;simp only[← hN]at cD
 clear hN;have CD:=qh cD
 clear cD;have k1:0≤wkN (N+1)∧wkN (N+1)≤6:=by unfold wkN;omega
 have k2:0≤wkN (N+6)∧wkN (N+6)≤6:=by unfold wkN;omega
 have j1:0≤(k+14-wkN (N+1)) % 7∧(k+14-wkN (N+1)) % 7≤6:=by omega
 have j2:0≤(wkN (N+6)+7-k) % 7∧(wkN (N+6)+7-k) % 7≤6:=by omega
 have hr':r=0∨r=1∨r=2∨r=3∨r=4:=by omega
 rcases hr' with rfl|rfl|rfl|rfl|rfl
 ·go_enter Tryz.func187,Tryz.ntmps187
  go_wp2_with (go_at_call 230;refine(CD.out _).mono ?_;rintro e w1 ⟨rfl,v⟩)
  go_ret;exact⟨ret_int (by rw[HE.out];simp),v⟩
 ·go_enter Tryz.func187,Tryz.ntmps187
  go_wp2_with (go_at_call 230;refine(CD.out _).mono ?_;rintro e w1 ⟨rfl,v⟩)
  go_ret;exact⟨ret_int (by rw[HE.out];simp),v⟩
 ·go_enter Tryz.func187,Tryz.ntmps187
  go_wp2_with (go_at_call 230;refine(CD.out _).mono ?_;rintro e w1 ⟨rfl,v⟩)
  go_ret;exact⟨ret_int (by rw[HE.out];simp),v⟩
 ·go_enter Tryz.func187,Tryz.ntmps187
  go_wp2_with (first|(go_at_call 230;refine(CD.out _).mono ?_;rintro e w1 ⟨rfl,v⟩)|(go_at_call 191;refine(l01Weekday_any (N+1) _ (by omega) (by omega)).mono ?_;rintro e w2 ⟨rfl,rfl⟩))
  go_ret;exact⟨ret_int (by rw[HE.out];simp;unfold wkN;omega),v⟩
 ·go_enter Tryz.func187,Tryz.ntmps187
  go_wp2_with (first|(go_at_call 230;refine(CD.out _).mono ?_;rintro e w1 ⟨rfl,v⟩)|(go_at_call 191;refine(l01Weekday_any (N+6) _ (by omega) (by omega)).mono ?_;rintro e w2 ⟨rfl,rfl⟩))
  go_ret;exact⟨ret_int (by rw[HE.out];simp;unfold wkN;omega),v⟩
theorem st_y{s y:Int}:bgN s y=if s=1 then num y 3 1 else if s=2 then num y 3 25 else if s=3 then num (y-1) 3 25 else if s=4 then eaN y else if s=5 then num (y-1) 12 25 else if s=6 then num (y-1) 9 1 else num y 1 1:=rfl
theorem l06Begin_any(s y:Int)(w:World)(hs:0≤s)(hs2:s≤6)(hy:2≤y)(hy2:y≤2000) :
 Calls Tryz.prog 233 #[.int .i64 s,.int .i64 y] w fun e w'=>e=.returned (.int .i64 (bgN s y))∧Up w w':=by
 have e4:=ea_bd (y:=y) (by omega)
 have u:Up w (w.alloc (.cells #[.int .i64 y,.int .i64 1,.int .i64 1] 265)):=Up.alloc w _
 have hs':s=0∨s=1∨s=2∨s=3∨s=4∨s=5∨s=6:=by omega
 have HE:=qh (st_y (s:=s) (y:=y))
 rcases hs' with rfl|rfl|rfl|rfl|rfl|rfl|rfl
 ·go_enter Tryz.func233,Tryz.ntmps233
  go_wp2_with fail
  refine(l01Number_any _ _ _ _ (by omega) (by omega) (by omega) (by omega) (by omega) (by omega)).mono ?_
  rintro e w1 ⟨rfl,v⟩
  go_wp2;go_ret;exact⟨ret_int (by rw[HE.out];simp),(Up.alloc _ _).trans v⟩
 ·go_enter Tryz.func233,Tryz.ntmps233
  go_wp2_with fail
  refine(l01Number_any _ _ _ _ (by omega) (by omega) (by omega) (by omega) (by omega) (by omega)).mono ?_
  rintro e w1 ⟨rfl,v⟩
  go_wp2;go_ret;exact⟨ret_int (by rw[HE.out];simp),(Up.alloc _ _).trans v⟩
 ·go_enter Tryz.func233,Tryz.ntmps233
  go_wp2_with fail
  refine(l01Number_any _ _ _ _ (by omega) (by omega) (by omega) (by omega) (by omega) (by omega)).mono ?_
  rintro e w1 ⟨rfl,v⟩
  go_wp2;go_ret;exact⟨ret_int (by rw[HE.out];simp),(Up.alloc _ _).trans v⟩
 ·go_enter Tryz.func233,Tryz.ntmps233
  go_wp2_with fail
  refine(l01Number_any _ _ _ _ (by omega) (by omega) (by omega) (by omega) (by omega) (by omega)).mono ?_
  rintro e w1 ⟨rfl,v⟩
  go_wp2;go_ret;exact⟨ret_int (by rw[HE.out];simp),(Up.alloc _ _).trans v⟩
 ·have hB:=Bx.new w #[.int .i64 y,.int .i64 1,.int .i64 1] 265
  go_enter Tryz.func233,Tryz.ntmps233
  go_wp2_with fail
  generalize w.alloc (.cells #[.int .i64 y,.int .i64 1,.int .i64 1] 265)=W1 at *
  refine(l04Old_any y _ (by omega) (by omega)).mono ?_
  rintro e w1 ⟨rfl,v⟩
  replace hB:=hB.up v;replace u:=u.trans v;clear v;obtain⟨b0,b1,b2⟩:=hB.c3
  obtain⟨f0,f1,f2⟩:=hB.f3
  go_wp2_with fail
  refine(l01Number_any _ _ _ _ (by omega) (by omega) (by omega) (by omega) e4.2.2.1 e4.2.2.2).mono ?_
  rintro e w2 ⟨rfl,v⟩
  go_wp2;go_ret;refine⟨ret_int (by rw[HE.out];simp[ea_num]),Up.trans ?_ v⟩
  iterate 3 refine Up.setCell ?_ (by simp) _
  exact u
 ·go_enter Tryz.func233,Tryz.ntmps233
  go_wp2_with fail
  refine(l01Number_any _ _ _ _ (by omega) (by omega) (by omega) (by omega) (by omega) (by omega)).mono ?_
  rintro e w1 ⟨rfl,v⟩
  go_wp2;go_ret;exact⟨ret_int (by rw[HE.out];simp),(Up.alloc _ _).trans v⟩
 ·go_enter Tryz.func233,Tryz.ntmps233
  go_wp2_with fail
  refine(l01Number_any _ _ _ _ (by omega) (by omega) (by omega) (by omega) (by omega) (by omega)).mono ?_
  rintro e w1 ⟨rfl,v⟩
  go_wp2;go_ret;exact⟨ret_int (by rw[HE.out];simp),(Up.alloc _ _).trans v⟩
theorem bgN_bd{s y:Int}(hy:2≤y)(hy2:y≤2000):0≤bgN s y∧bgN s y≤731000:=by
 rw[st_y];have h0:=eaN_bd (y:=y) (by omega) (by omega)
 have h1:=num_bd (y:=y) (m:=3) (d:=1) (by omega) (by omega) (by omega) (by omega) (by omega) (by omega)
 have h2:=num_bd (y:=y) (m:=3) (d:=25) (by omega) (by omega) (by omega) (by omega) (by omega) (by omega)
 have h3:=num_bd (y:=y-1) (m:=3) (d:=25) (by omega) (by omega) (by omega) (by omega) (by omega) (by omega)
 have h4:=num_bd (y:=y-1) (m:=12) (d:=25) (by omega) (by omega) (by omega) (by omega) (by omega) (by omega)
 have h5:=num_bd (y:=y-1) (m:=9) (d:=1) (by omega) (by omega) (by omega) (by omega) (by omega) (by omega)
 have h6:=num_bd (y:=y) (m:=1) (d:=1) (by omega) (by omega) (by omega) (by omega) (by omega) (by omega)
 repeat' split
 all_goals omega
end Go.Proofs.YtihcmhmanfobcaaGreatDoor
