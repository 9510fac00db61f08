/- A deed of a list, by the program. -/
import Derived.Test.YtihcmhmanfobcaaGreatDoorVg
import Derived.Test.YtihcmhmanfobcaaGreatDoorVh
import Derived.Deep.Cut
import Derived.Deep.DeepCutAuto
import Derived.Test.YtihcmhmanfobcaaGreatDoorVf
import Derived.Test.YtihcmhmanfobcaaGreatDoorVe
set_option maxHeartbeats 16000000
set_option maxRecDepth 100000
namespace Go.Proofs.YtihcmhmanfobcaaGreatDoor
open Go.RowKit Go.Sort
theorem dIx_at{l:List Dd}{k:Nat}{d:Dd}(hd:l[k]?=some d):(dIx l d.nm==(k:Int))=!ddIn ((l.map Dd.p).take k) d.nm:=by
 have hk:=(List.getElem?_eq_some_iff.1 hd).1
 rcases h:ddIn ((l.map Dd.p).take k) d.nm with _|_
 ·have hno:∀j x,j<k→l[j]?=some x→(x.nm.toList==d.nm.toList)=false:=fun j x hj hx=>by
   have hm:x.p∈(l.map Dd.p).take k:=by
    rw[← List.map_take];exact List.mem_map_of_mem (List.mem_of_getElem? (by rw[List.getElem?_take,if_pos hj];exact hx))
   unfold ddIn at h
   rw[List.any_eq_false]at h;have:=h _ hm
   simpa using this
  have e:dIx l d.nm=k:=ixB_yes (p:=fun x:Dd=>x.nm.toList==d.nm.toList) hd (by simp) hno
  rw[e];simp
 ·unfold ddIn at h
  rw[List.any_eq_true]at h;obtain⟨y,hy,hy2⟩:=h
  rw[← List.map_take]at hy;obtain⟨x,hx,rfl⟩:=List.mem_map.1 hy
  obtain⟨j,hj,e⟩:=List.getElem_of_mem hx
  have hjk:j<k:=by rw[List.length_take]at hj;omega
  have hjx:l[j]?=some x:=by
   have:(l.take k)[j]?=some x:=by rw[List.getElem?_eq_getElem hj,e]
   rwa [List.getElem?_take,if_pos hjk]at this
  rcases ixB_or l (fun x:Dd=>x.nm.toList==d.nm.toList) with⟨hz,-⟩|⟨m,d',hz,hd',hpe,hfst⟩
  ·have:dIx l d.nm=-1:=hz
   rw[this];simp<;>omega
  ·have:dIx l d.nm=m:=hz
   rw[this];have hm:m≠k:=by
    rintro rfl
    have:=hfst j x hjk hjx
    rw[this]at hy2;cases hy2
   simp<;>omega
theorem deedClosure_any(x:Wd)(lo hi:Nat)(d:Wi)(b:Nat)(w:World)(h:RdW w lo hi x)(hc:Bx w b [.slice x.rs.A x.rs.l.length x.rs.c,.int .i64 x.fr,.int .i64 x.to_,.slice x.ps.A x.ps.l.length x.ps.c,.slice x.ts.A x.ts.l.length x.ts.c,.slice x.pl.A x.pl.l.length x.pl.c,.slice x.ws.A x.ws.l.length x.ws.c,.slice x.st.A x.st.l.length x.st.c,.slice x.se.A x.se.l.length x.se.c,.slice x.ha.A x.ha.l.length x.ha.c]) :
 Calls Tryz.prog 200 #[d.val,.pointer (some ⟨b,0,none⟩)] w fun e w'=>e=.returned (.bool (!nmIn x.ps.l d.pe))∧Up w w':=by
 have u:=Up.alloc w (.cells #[.string d.pe,.string d.of_] 167)
 obtain⟨x0,x1,x2,x3,x4,x5,x6,x7,x8,x9⟩:=(hc.up u).c10
 clear x0 x1 x2 x5 x6 x7 x8 x9;have hB:=Bx.new w #[.string d.pe,.string d.of_] 167
 obtain⟨z,hz⟩:∃z,z=pix x.ps.l d.pe:=⟨_,rfl⟩
 have c1:=personIndex_any x.ps x.ts d.pe lo hi _ (h.ps.up u)
 rw[← hz]at c1;have C1:=qh c1
 have HZ:=qh (show nmIn x.ps.l d.pe=decide (0≤z) by rw[hz,px_in])
 clear hz c1;go_enter Tryz.func200,Tryz.ntmps200
 go_wp2_with (go_at_call 167;refine C1.out.mono ?_;rintro e w1 ⟨rfl,v⟩)
 all_goals (go_ret;exact⟨ret_bool (by rw[HZ.out];by_cases h:0≤z<;>simp[h]<;>omega),u.trans v⟩)
theorem isDeed_any(x:Wd)(s:Sl Dd)(k:Nat)(d:Dd)(lo hi:Nat)(w:World)(h:RdW w lo hi x)(h2:RdDd w lo hi s)(hk:s.l[k]?=some d)(hw:wdB x.p=true) :
 Calls Tryz.prog 156 #[x.val,.slice s.A s.l.length s.c,.int .i64 k] w fun e w'=>e=.returned (.bool (ddQ x.p (s.l.map Dd.p) k d.p))∧Up w w':=by
 obtain⟨hpp,hse,hha⟩:=wd_parts hw
 obtain⟨SA,sc,l⟩:=s
 have h3:=h2.each d (List.mem_of_getElem? hk)
 have hkl:k<l.length:=(List.getElem?_eq_some_iff.1 hk).1
 have hln:l.length≤2000000:=h2.len
 have hlh:=h2.hhi
 have hlr:Rd w lo hi 7 Dd.cells SA l:=h2.rd
 have HDX:=qh (dIx_at hk)
 obtain⟨b,off,d',rfl,-,-,hd',q0,q1,q2,q3,q4,q5,q6⟩:=hlr.dd hkl
 obtain rfl:d=d':=by rw[show l[k]?=some d from hk]at hd';exact Option.some.inj hd'
 clear hd' hk;obtain⟨iz,hiz⟩:∃z,z=dIx l d.nm:=⟨_,rfl⟩
 obtain⟨b1,hb1⟩:∃z,z=nameB d.nm 12:=⟨_,rfl⟩
 obtain⟨b2,hb2⟩:∃z,z=dtB d.da.l:=⟨_,rfl⟩
 obtain⟨b3,hb3⟩:∃z,z=d.wi.l.any fun z=>!nmIn x.ps.l z.pe:=⟨_,rfl⟩
 obtain⟨pz,hpz⟩:∃z,z=decide (0≤txIx x.pl.l d.pl):=⟨_,rfl⟩
 obtain⟨b6,hb6⟩:∃z,z=nmIn x.se.l d.se:=⟨_,rfl⟩
 obtain⟨b7,hb7⟩:∃z,z=nmIn x.ha.l d.ha:=⟨_,rfl⟩
 obtain⟨b0,hb0⟩:∃z,z=(iz==(k:Int)):=⟨_,rfl⟩
 have HW3:wiB x.ps.l d.wi.l=(decide (d.wi.l.length≤12) && !b3):=by unfold wiB;rw[hb3];simp[List.all_eq_not_any_not]
 have HE:=qh (show ddQ x.p (l.map Dd.p) k d.p=((b1 && (b2 && ((decide (d.wi.l.length≤12) && !b3) && (decide (d.ci.l.length≤8) && (((d.pl.toList==[]) || pz) && (((d.se.toList==[]) || b6) && (((d.ha.toList==[]) || b7) && allK d.ci.l (ctQ (l.map Dd.p) d.p)))))))) && b0) by
  unfold ddQ;rw[d0_parts,← HW3,hb1,hb2,hpz,tx_in,hb6,hb7,hb0,hiz,HDX.out])
 clear HW3 HDX;have c0:=fun wx (u:Up w wx)=>deedIndex_any (some ⟨b,off,none⟩) l sc lo hi d.nm wx (hlr.up u hlh) (Nat.le_trans hlh u.size) hln
 have c1:=fun wx=>isSmall_any d.nm 12 wx h3.nm
 have c2:=fun wx (u:Up w wx)=>implIsDating_any d.da lo hi wx (h3.da.up u)
 have c3:∀wx,Up w wx→Bx wx w.heap.size [.slice x.rs.A x.rs.l.length x.rs.c,.int .i64 x.fr,.int .i64 x.to_,.slice x.ps.A x.ps.l.length x.ps.c,.slice x.ts.A x.ts.l.length x.ts.c,.slice x.pl.A x.pl.l.length x.pl.c,.slice x.ws.A x.ws.l.length x.ws.c,.slice x.st.A x.st.l.length x.st.c,.slice x.se.A x.se.l.length x.se.c,.slice x.ha.A x.ha.l.length x.ha.c]→Calls Tryz.prog 199 #[.slice d.wi.A d.wi.l.length d.wi.c,.func (.func 200) #[] #[.pointer (some ⟨w.heap.size,0,none⟩)]] wx fun e w'=>e=.returned (.bool b3)∧Up wx w':=fun wx u hB=>by
  rw[hb3];exact containsFuncWi_any d.wi.A d.wi.l d.wi.c lo hi 200 #[.pointer (some ⟨w.heap.size,0,none⟩)] (fun z=>!nmIn x.ps.l z.pe) wx (h3.wi.up u).rd (h3.wi.up u).hhi h3.wi.len (fun _ _=>by kernel_rfl) (fun z _ w1 hu=>deedClosure_any x lo hi z w.heap.size w1 (h.up (u.trans hu)) (hB.up hu))
 have c5:=fun wx (u:Up w wx)=>txContains_any x.pl.A x.pl.l x.pl.c lo hi d.pl wx (h.pl.up u).rd h.pl.len
 have c6:=fun wx (u:Up w wx)=>markDaysN x.se d.se lo hi wx (h.se.up u) hse
 have c7:=fun wx (u:Up w wx)=>markDaysN x.ha d.ha lo hi wx (h.ha.up u) hha
 change ∀wx,Up w wx→Calls Tryz.prog 197 _ _ fun e w'=>e=.returned (.int .i64 (dIx l d.nm))∧Up wx w' at c0
 simp only[← hiz]at c0
 simp only[← hb1]at c1
 simp only[← hb2]at c2
 simp only[← hpz]at c5
 simp only[← hb6]at c6
 simp only[← hb7]at c7
 have K0:=qh c0
 have K1:=qh c1
 have K2:=qh c2
 have K3:=qh c3
 have K5:=qh c5
 have K6:=qh c6
 have K7:=qh c7
 have H2:=qh h2
 have HLR:=qh hlr
 have HCI:=qh h3.ci
 clear hb1 hb2 hb3 hpz hb6 hb7 c0 c1 c2 c3 c5 c6 c7 h h2 h3 hw hpp hse hha hiz hlr;have hX0:=Bx.new w #[.slice x.rs.A x.rs.l.length x.rs.c,.int .i64 x.fr,.int .i64 x.to_,.slice x.ps.A x.ps.l.length x.ps.c,.slice x.ts.A x.ts.l.length x.ts.c,.slice x.pl.A x.pl.l.length x.pl.c,.slice x.ws.A x.ws.l.length x.ws.c,.slice x.st.A x.st.l.length x.st.c,.slice x.se.A x.se.l.length x.se.c,.slice x.ha.A x.ha.l.length x.ha.c] 59
 have hX:=hX0.up (Up.alloc _ (.cells #[.string d.nm,.slice d.da.A d.da.l.length d.da.c,.slice d.wi.A d.wi.l.length d.wi.c,.string d.pl,.string d.se,.string d.ha,.slice d.ci.A d.ci.l.length d.ci.c] 81))
 have hY:Bx ((w.alloc (.cells #[.slice x.rs.A x.rs.l.length x.rs.c,.int .i64 x.fr,.int .i64 x.to_,.slice x.ps.A x.ps.l.length x.ps.c,.slice x.ts.A x.ts.l.length x.ts.c,.slice x.pl.A x.pl.l.length x.pl.c,.slice x.ws.A x.ws.l.length x.ws.c,.slice x.st.A x.st.l.length x.st.c,.slice x.se.A x.se.l.length x.se.c,.slice x.ha.A x.ha.l.length x.ha.c] 59)).alloc (.cells #[.string d.nm,.slice d.da.A d.da.l.length d.da.c,.slice d.wi.A d.wi.l.length d.wi.c,.string d.pl,.string d.se,.string d.ha,.slice d.ci.A d.ci.l.length d.ci.c] 81)) (w.heap.size+1) [.string d.nm,.slice d.da.A d.da.l.length d.da.c,.slice d.wi.A d.wi.l.length d.wi.c,.string d.pl,.string d.se,.string d.ha,.slice d.ci.A d.ci.l.length d.ci.c]:=by
  have:=Bx.new (w.alloc (.cells #[.slice x.rs.A x.rs.l.length x.rs.c,.int .i64 x.fr,.int .i64 x.to_,.slice x.ps.A x.ps.l.length x.ps.c,.slice x.ts.A x.ts.l.length x.ts.c,.slice x.pl.A x.pl.l.length x.pl.c,.slice x.ws.A x.ws.l.length x.ws.c,.slice x.st.A x.st.l.length x.st.c,.slice x.se.A x.se.l.length x.se.c,.slice x.ha.A x.ha.l.length x.ha.c] 59)) #[.string d.nm,.slice d.da.A d.da.l.length d.da.c,.slice d.wi.A d.wi.l.length d.wi.c,.string d.pl,.string d.se,.string d.ha,.slice d.ci.A d.ci.l.length d.ci.c] 81
  simpa using this
 have u:Up w ((w.alloc (.cells #[.slice x.rs.A x.rs.l.length x.rs.c,.int .i64 x.fr,.int .i64 x.to_,.slice x.ps.A x.ps.l.length x.ps.c,.slice x.ts.A x.ts.l.length x.ts.c,.slice x.pl.A x.pl.l.length x.pl.c,.slice x.ws.A x.ws.l.length x.ws.c,.slice x.st.A x.st.l.length x.st.c,.slice x.se.A x.se.l.length x.se.c,.slice x.ha.A x.ha.l.length x.ha.c] 59)).alloc (.cells #[.string d.nm,.slice d.da.A d.da.l.length d.da.c,.slice d.wi.A d.wi.l.length d.wi.c,.string d.pl,.string d.se,.string d.ha,.slice d.ci.A d.ci.l.length d.ci.c] 81)):=(Up.alloc _ _).allocs _
 clear hX0;have r0:=(Up.alloc w (.cells #[.slice x.rs.A x.rs.l.length x.rs.c,.int .i64 x.fr,.int .i64 x.to_,.slice x.ps.A x.ps.l.length x.ps.c,.slice x.ts.A x.ts.l.length x.ts.c,.slice x.pl.A x.pl.l.length x.pl.c,.slice x.ws.A x.ws.l.length x.ws.c,.slice x.st.A x.st.l.length x.st.c,.slice x.se.A x.se.l.length x.se.c,.slice x.ha.A x.ha.l.length x.ha.c] 59)).cell q0
 have r1:=(Up.alloc w (.cells #[.slice x.rs.A x.rs.l.length x.rs.c,.int .i64 x.fr,.int .i64 x.to_,.slice x.ps.A x.ps.l.length x.ps.c,.slice x.ts.A x.ts.l.length x.ts.c,.slice x.pl.A x.pl.l.length x.pl.c,.slice x.ws.A x.ws.l.length x.ws.c,.slice x.st.A x.st.l.length x.st.c,.slice x.se.A x.se.l.length x.se.c,.slice x.ha.A x.ha.l.length x.ha.c] 59)).cell q1
 have r2:=(Up.alloc w (.cells #[.slice x.rs.A x.rs.l.length x.rs.c,.int .i64 x.fr,.int .i64 x.to_,.slice x.ps.A x.ps.l.length x.ps.c,.slice x.ts.A x.ts.l.length x.ts.c,.slice x.pl.A x.pl.l.length x.pl.c,.slice x.ws.A x.ws.l.length x.ws.c,.slice x.st.A x.st.l.length x.st.c,.slice x.se.A x.se.l.length x.se.c,.slice x.ha.A x.ha.l.length x.ha.c] 59)).cell q2
 have r3:=(Up.alloc w (.cells #[.slice x.rs.A x.rs.l.length x.rs.c,.int .i64 x.fr,.int .i64 x.to_,.slice x.ps.A x.ps.l.length x.ps.c,.slice x.ts.A x.ts.l.length x.ts.c,.slice x.pl.A x.pl.l.length x.pl.c,.slice x.ws.A x.ws.l.length x.ws.c,.slice x.st.A x.st.l.length x.st.c,.slice x.se.A x.se.l.length x.se.c,.slice x.ha.A x.ha.l.length x.ha.c] 59)).cell q3
 have r4:=(Up.alloc w (.cells #[.slice x.rs.A x.rs.l.length x.rs.c,.int .i64 x.fr,.int .i64 x.to_,.slice x.ps.A x.ps.l.length x.ps.c,.slice x.ts.A x.ts.l.length x.ts.c,.slice x.pl.A x.pl.l.length x.pl.c,.slice x.ws.A x.ws.l.length x.ws.c,.slice x.st.A x.st.l.length x.st.c,.slice x.se.A x.se.l.length x.se.c,.slice x.ha.A x.ha.l.length x.ha.c] 59)).cell q4
 have r5:=(Up.alloc w (.cells #[.slice x.rs.A x.rs.l.length x.rs.c,.int .i64 x.fr,.int .i64 x.to_,.slice x.ps.A x.ps.l.length x.ps.c,.slice x.ts.A x.ts.l.length x.ts.c,.slice x.pl.A x.pl.l.length x.pl.c,.slice x.ws.A x.ws.l.length x.ws.c,.slice x.st.A x.st.l.length x.st.c,.slice x.se.A x.se.l.length x.se.c,.slice x.ha.A x.ha.l.length x.ha.c] 59)).cell q5
 have r6:=(Up.alloc w (.cells #[.slice x.rs.A x.rs.l.length x.rs.c,.int .i64 x.fr,.int .i64 x.to_,.slice x.ps.A x.ps.l.length x.ps.c,.slice x.ts.A x.ts.l.length x.ts.c,.slice x.pl.A x.pl.l.length x.pl.c,.slice x.ws.A x.ws.l.length x.ws.c,.slice x.st.A x.st.l.length x.st.c,.slice x.se.A x.se.l.length x.se.c,.slice x.ha.A x.ha.l.length x.ha.c] 59)).cell q6
 obtain⟨x0,x1,x2,x3,x4,x5,x6,x7,x8,x9⟩:=hX.c10
 obtain⟨y0,y1,y2,y3,y4,y5,y6⟩:=hY.c7
 have HX:=qh hX
 have HY:=qh hY
 clear hX hY q0 q1 q2 q3 q4 q5 q6;have HB0:=qh hb0
 clear hb0;go_enter Tryz.func156,Tryz.ntmps156
 rcases b1 with _|_
 ·go_wp2_with first|(go_at_call 196;refine(K1.out _).mono ?_;rintro e wn ⟨rfl,v⟩;replace u:=u.trans v;replace HX:=qh (HX.out.up v);replace HY:=qh (HY.out.up v);clear v;obtain⟨x0,x1,x2,x3,x4,x5,x6,x7,x8,x9⟩:=HX.out.c10;obtain⟨y0,y1,y2,y3,y4,y5,y6⟩:=HY.out.c7)|(go_at_call 197;refine(K0.out _ u).mono ?_;rintro e wn ⟨rfl,v⟩;replace u:=u.trans v;replace HX:=qh (HX.out.up v);replace HY:=qh (HY.out.up v);clear v;obtain⟨x0,x1,x2,x3,x4,x5,x6,x7,x8,x9⟩:=HX.out.c10;obtain⟨y0,y1,y2,y3,y4,y5,y6⟩:=HY.out.c7)|(go_at_call 198;refine(K2.out _ u).mono ?_;rintro e wn ⟨rfl,v⟩;replace u:=u.trans v;replace HX:=qh (HX.out.up v);replace HY:=qh (HY.out.up v);clear v;obtain⟨x0,x1,x2,x3,x4,x5,x6,x7,x8,x9⟩:=HX.out.c10;obtain⟨y0,y1,y2,y3,y4,y5,y6⟩:=HY.out.c7)|(go_at_call 199;refine(K3.out _ u HX.out).mono ?_;rintro e wn ⟨rfl,v⟩;replace u:=u.trans v;replace HX:=qh (HX.out.up v);replace HY:=qh (HY.out.up v);clear v;obtain⟨x0,x1,x2,x3,x4,x5,x6,x7,x8,x9⟩:=HX.out.c10;obtain⟨y0,y1,y2,y3,y4,y5,y6⟩:=HY.out.c7)|(go_at_call 201;refine(K5.out _ u).mono ?_;rintro e wn ⟨rfl,rfl⟩)|(go_at_call 120;(first|(with_reducible refine(K6.out _ u).mono ?_)|(with_reducible refine(K7.out _ u).mono ?_));rintro e wn ⟨A6,c6,m6,rfl,hm6,v⟩;replace u:=u.trans v;replace HX:=qh (HX.out.up v);replace HY:=qh (HY.out.up v);clear v;have hmz:=m6z m6;rw[hm6]at hmz;simp only[Bool.not_true,Bool.not_false]at hmz;obtain⟨x0,x1,x2,x3,x4,x5,x6,x7,x8,x9⟩:=HX.out.c10;obtain⟨y0,y1,y2,y3,y4,y5,y6⟩:=HY.out.c7)
  all_goals (go_ret;exact⟨ret_bool (by rw[HE.out];rfl),u⟩)
 rcases b0 with _|_
 ·have hz1:(iz != (k:Int))=true:=by have:=HB0.out;simp at this;simpa using this
  have hz0:¬ iz=(k:Int):=by simpa using hz1
  go_wp2_with first|(go_at_call 196;refine(K1.out _).mono ?_;rintro e wn ⟨rfl,v⟩;replace u:=u.trans v;replace HX:=qh (HX.out.up v);replace HY:=qh (HY.out.up v);clear v;obtain⟨x0,x1,x2,x3,x4,x5,x6,x7,x8,x9⟩:=HX.out.c10;obtain⟨y0,y1,y2,y3,y4,y5,y6⟩:=HY.out.c7)|(go_at_call 197;refine(K0.out _ u).mono ?_;rintro e wn ⟨rfl,v⟩;replace u:=u.trans v;replace HX:=qh (HX.out.up v);replace HY:=qh (HY.out.up v);clear v;obtain⟨x0,x1,x2,x3,x4,x5,x6,x7,x8,x9⟩:=HX.out.c10;obtain⟨y0,y1,y2,y3,y4,y5,y6⟩:=HY.out.c7)|(go_at_call 198;refine(K2.out _ u).mono ?_;rintro e wn ⟨rfl,v⟩;replace u:=u.trans v;replace HX:=qh (HX.out.up v);replace HY:=qh (HY.out.up v);clear v;obtain⟨x0,x1,x2,x3,x4,x5,x6,x7,x8,x9⟩:=HX.out.c10;obtain⟨y0,y1,y2,y3,y4,y5,y6⟩:=HY.out.c7)|(go_at_call 199;refine(K3.out _ u HX.out).mono ?_;rintro e wn ⟨rfl,v⟩;replace u:=u.trans v;replace HX:=qh (HX.out.up v);replace HY:=qh (HY.out.up v);clear v;obtain⟨x0,x1,x2,x3,x4,x5,x6,x7,x8,x9⟩:=HX.out.c10;obtain⟨y0,y1,y2,y3,y4,y5,y6⟩:=HY.out.c7)|(go_at_call 201;refine(K5.out _ u).mono ?_;rintro e wn ⟨rfl,rfl⟩)|(go_at_call 120;(first|(with_reducible refine(K6.out _ u).mono ?_)|(with_reducible refine(K7.out _ u).mono ?_));rintro e wn ⟨A6,c6,m6,rfl,hm6,v⟩;replace u:=u.trans v;replace HX:=qh (HX.out.up v);replace HY:=qh (HY.out.up v);clear v;have hmz:=m6z m6;rw[hm6]at hmz;simp only[Bool.not_true,Bool.not_false]at hmz;obtain⟨x0,x1,x2,x3,x4,x5,x6,x7,x8,x9⟩:=HX.out.c10;obtain⟨y0,y1,y2,y3,y4,y5,y6⟩:=HY.out.c7)
  all_goals (go_ret;exact⟨ret_bool (by rw[HE.out];simp),u⟩)
 obtain rfl:iz=(k:Int):=by have:=HB0.out;simpa using this.symm
 clear HB0;rcases b2 with _|_
 ·go_wp2_with first|(go_at_call 196;refine(K1.out _).mono ?_;rintro e wn ⟨rfl,v⟩;replace u:=u.trans v;replace HX:=qh (HX.out.up v);replace HY:=qh (HY.out.up v);clear v;obtain⟨x0,x1,x2,x3,x4,x5,x6,x7,x8,x9⟩:=HX.out.c10;obtain⟨y0,y1,y2,y3,y4,y5,y6⟩:=HY.out.c7)|(go_at_call 197;refine(K0.out _ u).mono ?_;rintro e wn ⟨rfl,v⟩;replace u:=u.trans v;replace HX:=qh (HX.out.up v);replace HY:=qh (HY.out.up v);clear v;obtain⟨x0,x1,x2,x3,x4,x5,x6,x7,x8,x9⟩:=HX.out.c10;obtain⟨y0,y1,y2,y3,y4,y5,y6⟩:=HY.out.c7)|(go_at_call 198;refine(K2.out _ u).mono ?_;rintro e wn ⟨rfl,v⟩;replace u:=u.trans v;replace HX:=qh (HX.out.up v);replace HY:=qh (HY.out.up v);clear v;obtain⟨x0,x1,x2,x3,x4,x5,x6,x7,x8,x9⟩:=HX.out.c10;obtain⟨y0,y1,y2,y3,y4,y5,y6⟩:=HY.out.c7)|(go_at_call 199;refine(K3.out _ u HX.out).mono ?_;rintro e wn ⟨rfl,v⟩;replace u:=u.trans v;replace HX:=qh (HX.out.up v);replace HY:=qh (HY.out.up v);clear v;obtain⟨x0,x1,x2,x3,x4,x5,x6,x7,x8,x9⟩:=HX.out.c10;obtain⟨y0,y1,y2,y3,y4,y5,y6⟩:=HY.out.c7)|(go_at_call 201;refine(K5.out _ u).mono ?_;rintro e wn ⟨rfl,rfl⟩)|(go_at_call 120;(first|(with_reducible refine(K6.out _ u).mono ?_)|(with_reducible refine(K7.out _ u).mono ?_));rintro e wn ⟨A6,c6,m6,rfl,hm6,v⟩;replace u:=u.trans v;replace HX:=qh (HX.out.up v);replace HY:=qh (HY.out.up v);clear v;have hmz:=m6z m6;rw[hm6]at hmz;simp only[Bool.not_true,Bool.not_false]at hmz;obtain⟨x0,x1,x2,x3,x4,x5,x6,x7,x8,x9⟩:=HX.out.c10;obtain⟨y0,y1,y2,y3,y4,y5,y6⟩:=HY.out.c7)
  all_goals (go_ret;exact⟨ret_bool (by rw[HE.out];rfl),u⟩)
 by_cases h12:d.wi.l.length≤12
 rotate_left
 ·have h12':12<d.wi.l.length:=by omega
  go_wp2_with first|(go_at_call 196;refine(K1.out _).mono ?_;rintro e wn ⟨rfl,v⟩;replace u:=u.trans v;replace HX:=qh (HX.out.up v);replace HY:=qh (HY.out.up v);clear v;obtain⟨x0,x1,x2,x3,x4,x5,x6,x7,x8,x9⟩:=HX.out.c10;obtain⟨y0,y1,y2,y3,y4,y5,y6⟩:=HY.out.c7)|(go_at_call 197;refine(K0.out _ u).mono ?_;rintro e wn ⟨rfl,v⟩;replace u:=u.trans v;replace HX:=qh (HX.out.up v);replace HY:=qh (HY.out.up v);clear v;obtain⟨x0,x1,x2,x3,x4,x5,x6,x7,x8,x9⟩:=HX.out.c10;obtain⟨y0,y1,y2,y3,y4,y5,y6⟩:=HY.out.c7)|(go_at_call 198;refine(K2.out _ u).mono ?_;rintro e wn ⟨rfl,v⟩;replace u:=u.trans v;replace HX:=qh (HX.out.up v);replace HY:=qh (HY.out.up v);clear v;obtain⟨x0,x1,x2,x3,x4,x5,x6,x7,x8,x9⟩:=HX.out.c10;obtain⟨y0,y1,y2,y3,y4,y5,y6⟩:=HY.out.c7)|(go_at_call 199;refine(K3.out _ u HX.out).mono ?_;rintro e wn ⟨rfl,v⟩;replace u:=u.trans v;replace HX:=qh (HX.out.up v);replace HY:=qh (HY.out.up v);clear v;obtain⟨x0,x1,x2,x3,x4,x5,x6,x7,x8,x9⟩:=HX.out.c10;obtain⟨y0,y1,y2,y3,y4,y5,y6⟩:=HY.out.c7)|(go_at_call 201;refine(K5.out _ u).mono ?_;rintro e wn ⟨rfl,rfl⟩)|(go_at_call 120;(first|(with_reducible refine(K6.out _ u).mono ?_)|(with_reducible refine(K7.out _ u).mono ?_));rintro e wn ⟨A6,c6,m6,rfl,hm6,v⟩;replace u:=u.trans v;replace HX:=qh (HX.out.up v);replace HY:=qh (HY.out.up v);clear v;have hmz:=m6z m6;rw[hm6]at hmz;simp only[Bool.not_true,Bool.not_false]at hmz;obtain⟨x0,x1,x2,x3,x4,x5,x6,x7,x8,x9⟩:=HX.out.c10;obtain⟨y0,y1,y2,y3,y4,y5,y6⟩:=HY.out.c7)
  all_goals (go_ret;exact⟨ret_bool (by rw[HE.out];simp[h12]),u⟩)
 have h12':¬ 12<d.wi.l.length:=by omega
 by_cases h8:d.ci.l.length≤8
 rotate_left
 ·have h8':8<d.ci.l.length:=by omega
  go_wp2_with first|(go_at_call 196;refine(K1.out _).mono ?_;rintro e wn ⟨rfl,v⟩;replace u:=u.trans v;replace HX:=qh (HX.out.up v);replace HY:=qh (HY.out.up v);clear v;obtain⟨x0,x1,x2,x3,x4,x5,x6,x7,x8,x9⟩:=HX.out.c10;obtain⟨y0,y1,y2,y3,y4,y5,y6⟩:=HY.out.c7)|(go_at_call 197;refine(K0.out _ u).mono ?_;rintro e wn ⟨rfl,v⟩;replace u:=u.trans v;replace HX:=qh (HX.out.up v);replace HY:=qh (HY.out.up v);clear v;obtain⟨x0,x1,x2,x3,x4,x5,x6,x7,x8,x9⟩:=HX.out.c10;obtain⟨y0,y1,y2,y3,y4,y5,y6⟩:=HY.out.c7)|(go_at_call 198;refine(K2.out _ u).mono ?_;rintro e wn ⟨rfl,v⟩;replace u:=u.trans v;replace HX:=qh (HX.out.up v);replace HY:=qh (HY.out.up v);clear v;obtain⟨x0,x1,x2,x3,x4,x5,x6,x7,x8,x9⟩:=HX.out.c10;obtain⟨y0,y1,y2,y3,y4,y5,y6⟩:=HY.out.c7)|(go_at_call 199;refine(K3.out _ u HX.out).mono ?_;rintro e wn ⟨rfl,v⟩;replace u:=u.trans v;replace HX:=qh (HX.out.up v);replace HY:=qh (HY.out.up v);clear v;obtain⟨x0,x1,x2,x3,x4,x5,x6,x7,x8,x9⟩:=HX.out.c10;obtain⟨y0,y1,y2,y3,y4,y5,y6⟩:=HY.out.c7)|(go_at_call 201;refine(K5.out _ u).mono ?_;rintro e wn ⟨rfl,rfl⟩)|(go_at_call 120;(first|(with_reducible refine(K6.out _ u).mono ?_)|(with_reducible refine(K7.out _ u).mono ?_));rintro e wn ⟨A6,c6,m6,rfl,hm6,v⟩;replace u:=u.trans v;replace HX:=qh (HX.out.up v);replace HY:=qh (HY.out.up v);clear v;have hmz:=m6z m6;rw[hm6]at hmz;simp only[Bool.not_true,Bool.not_false]at hmz;obtain⟨x0,x1,x2,x3,x4,x5,x6,x7,x8,x9⟩:=HX.out.c10;obtain⟨y0,y1,y2,y3,y4,y5,y6⟩:=HY.out.c7)
  all_goals (go_ret;exact⟨ret_bool (by rw[HE.out];simp[h8]),u⟩)
 have h8':¬ 8<d.ci.l.length:=by omega
 rcases b3 with _|_
 rotate_left
 ·go_wp2_with first|(go_at_call 196;refine(K1.out _).mono ?_;rintro e wn ⟨rfl,v⟩;replace u:=u.trans v;replace HX:=qh (HX.out.up v);replace HY:=qh (HY.out.up v);clear v;obtain⟨x0,x1,x2,x3,x4,x5,x6,x7,x8,x9⟩:=HX.out.c10;obtain⟨y0,y1,y2,y3,y4,y5,y6⟩:=HY.out.c7)|(go_at_call 197;refine(K0.out _ u).mono ?_;rintro e wn ⟨rfl,v⟩;replace u:=u.trans v;replace HX:=qh (HX.out.up v);replace HY:=qh (HY.out.up v);clear v;obtain⟨x0,x1,x2,x3,x4,x5,x6,x7,x8,x9⟩:=HX.out.c10;obtain⟨y0,y1,y2,y3,y4,y5,y6⟩:=HY.out.c7)|(go_at_call 198;refine(K2.out _ u).mono ?_;rintro e wn ⟨rfl,v⟩;replace u:=u.trans v;replace HX:=qh (HX.out.up v);replace HY:=qh (HY.out.up v);clear v;obtain⟨x0,x1,x2,x3,x4,x5,x6,x7,x8,x9⟩:=HX.out.c10;obtain⟨y0,y1,y2,y3,y4,y5,y6⟩:=HY.out.c7)|(go_at_call 199;refine(K3.out _ u HX.out).mono ?_;rintro e wn ⟨rfl,v⟩;replace u:=u.trans v;replace HX:=qh (HX.out.up v);replace HY:=qh (HY.out.up v);clear v;obtain⟨x0,x1,x2,x3,x4,x5,x6,x7,x8,x9⟩:=HX.out.c10;obtain⟨y0,y1,y2,y3,y4,y5,y6⟩:=HY.out.c7)|(go_at_call 201;refine(K5.out _ u).mono ?_;rintro e wn ⟨rfl,rfl⟩)|(go_at_call 120;(first|(with_reducible refine(K6.out _ u).mono ?_)|(with_reducible refine(K7.out _ u).mono ?_));rintro e wn ⟨A6,c6,m6,rfl,hm6,v⟩;replace u:=u.trans v;replace HX:=qh (HX.out.up v);replace HY:=qh (HY.out.up v);clear v;have hmz:=m6z m6;rw[hm6]at hmz;simp only[Bool.not_true,Bool.not_false]at hmz;obtain⟨x0,x1,x2,x3,x4,x5,x6,x7,x8,x9⟩:=HX.out.c10;obtain⟨y0,y1,y2,y3,y4,y5,y6⟩:=HY.out.c7)
  all_goals (go_ret;exact⟨ret_bool (by rw[HE.out];simp),u⟩)
 obtain⟨pk,hpk⟩:∃z,z=((d.pl.toList==[]) || pz):=⟨_,rfl⟩
 obtain⟨sk,hsk⟩:∃z,z=((d.se.toList==[]) || b6):=⟨_,rfl⟩
 obtain⟨hk,hhk⟩:∃z,z=((d.ha.toList==[]) || b7):=⟨_,rfl⟩
 have HE2:=qh (show ddQ x.p (l.map Dd.p) k d.p=(pk && (sk && (hk && allK d.ci.l (ctQ (l.map Dd.p) d.p)))) by rw[HE.out,hpk,hsk,hhk,decide_eq_true h8,decide_eq_true h12];simp only[Bool.true_and,Bool.and_true,Bool.not_false])
 have HPK:=qh hpk
 have HSK:=qh hsk
 have HHK:=qh hhk
 clear hpk hsk hhk HE;go_upto_region 6 with first|(go_at_call 196;refine(K1.out _).mono ?_;rintro e wn ⟨rfl,v⟩;replace u:=u.trans v;replace HX:=qh (HX.out.up v);replace HY:=qh (HY.out.up v);clear v;obtain⟨x0,x1,x2,x3,x4,x5,x6,x7,x8,x9⟩:=HX.out.c10;obtain⟨y0,y1,y2,y3,y4,y5,y6⟩:=HY.out.c7)|(go_at_call 197;refine(K0.out _ u).mono ?_;rintro e wn ⟨rfl,v⟩;replace u:=u.trans v;replace HX:=qh (HX.out.up v);replace HY:=qh (HY.out.up v);clear v;obtain⟨x0,x1,x2,x3,x4,x5,x6,x7,x8,x9⟩:=HX.out.c10;obtain⟨y0,y1,y2,y3,y4,y5,y6⟩:=HY.out.c7)|(go_at_call 198;refine(K2.out _ u).mono ?_;rintro e wn ⟨rfl,v⟩;replace u:=u.trans v;replace HX:=qh (HX.out.up v);replace HY:=qh (HY.out.up v);clear v;obtain⟨x0,x1,x2,x3,x4,x5,x6,x7,x8,x9⟩:=HX.out.c10;obtain⟨y0,y1,y2,y3,y4,y5,y6⟩:=HY.out.c7)|(go_at_call 199;refine(K3.out _ u HX.out).mono ?_;rintro e wn ⟨rfl,v⟩;replace u:=u.trans v;replace HX:=qh (HX.out.up v);replace HY:=qh (HY.out.up v);clear v;obtain⟨x0,x1,x2,x3,x4,x5,x6,x7,x8,x9⟩:=HX.out.c10;obtain⟨y0,y1,y2,y3,y4,y5,y6⟩:=HY.out.c7)|(go_at_call 201;refine(K5.out _ u).mono ?_;rintro e wn ⟨rfl,rfl⟩)|(go_at_call 120;(first|(with_reducible refine(K6.out _ u).mono ?_)|(with_reducible refine(K7.out _ u).mono ?_));rintro e wn ⟨A6,c6,m6,rfl,hm6,v⟩;replace u:=u.trans v;replace HX:=qh (HX.out.up v);replace HY:=qh (HY.out.up v);clear v;have hmz:=m6z m6;rw[hm6]at hmz;simp only[Bool.not_true,Bool.not_false]at hmz;obtain⟨x0,x1,x2,x3,x4,x5,x6,x7,x8,x9⟩:=HX.out.c10;obtain⟨y0,y1,y2,y3,y4,y5,y6⟩:=HY.out.c7)
 have u0:=u
 go_cut [87] (fun bz wx=>∃(Z:World) (bo:Bool),Z=wx∧bz=.bool bo∧bo=!(pk && (sk && hk))∧Up w Z∧Bx Z w.heap.size [.slice x.rs.A x.rs.l.length x.rs.c,.int .i64 x.fr,.int .i64 x.to_,.slice x.ps.A x.ps.l.length x.ps.c,.slice x.ts.A x.ts.l.length x.ts.c,.slice x.pl.A x.pl.l.length x.pl.c,.slice x.ws.A x.ws.l.length x.ws.c,.slice x.st.A x.st.l.length x.st.c,.slice x.se.A x.se.l.length x.se.c,.slice x.ha.A x.ha.l.length x.ha.c]∧Bx Z (w.heap.size+1) [.string d.nm,.slice d.da.A d.da.l.length d.da.c,.slice d.wi.A d.wi.l.length d.wi.c,.string d.pl,.string d.se,.string d.ha,.slice d.ci.A d.ci.l.length d.ci.c])
 case first =>
  by_cases h1:d.pl.toList=[]
  ·have h1e:d.pl.toList.isEmpty=true:=by simp[h1]
   have PK:pk=true:=by rw[HPK.out,h1];rfl
   by_cases h2:d.se.toList=[]
   ·have h2e:d.se.toList.isEmpty=true:=by simp[h2]
    have SK:sk=true:=by rw[HSK.out,h2];rfl
    by_cases h3:d.ha.toList=[]
    ·have h3e:d.ha.toList.isEmpty=true:=by simp[h3]
     have HV:=qh (show false=!(pk && (sk && hk)) by rw[PK,SK,HHK.out,h3];rfl)
     go_wp2_with first|(go_at_call 196;refine(K1.out _).mono ?_;rintro e wn ⟨rfl,v⟩;replace u:=u.trans v;replace HX:=qh (HX.out.up v);replace HY:=qh (HY.out.up v);clear v;obtain⟨x0,x1,x2,x3,x4,x5,x6,x7,x8,x9⟩:=HX.out.c10;obtain⟨y0,y1,y2,y3,y4,y5,y6⟩:=HY.out.c7)|(go_at_call 197;refine(K0.out _ u).mono ?_;rintro e wn ⟨rfl,v⟩;replace u:=u.trans v;replace HX:=qh (HX.out.up v);replace HY:=qh (HY.out.up v);clear v;obtain⟨x0,x1,x2,x3,x4,x5,x6,x7,x8,x9⟩:=HX.out.c10;obtain⟨y0,y1,y2,y3,y4,y5,y6⟩:=HY.out.c7)|(go_at_call 198;refine(K2.out _ u).mono ?_;rintro e wn ⟨rfl,v⟩;replace u:=u.trans v;replace HX:=qh (HX.out.up v);replace HY:=qh (HY.out.up v);clear v;obtain⟨x0,x1,x2,x3,x4,x5,x6,x7,x8,x9⟩:=HX.out.c10;obtain⟨y0,y1,y2,y3,y4,y5,y6⟩:=HY.out.c7)|(go_at_call 199;refine(K3.out _ u HX.out).mono ?_;rintro e wn ⟨rfl,v⟩;replace u:=u.trans v;replace HX:=qh (HX.out.up v);replace HY:=qh (HY.out.up v);clear v;obtain⟨x0,x1,x2,x3,x4,x5,x6,x7,x8,x9⟩:=HX.out.c10;obtain⟨y0,y1,y2,y3,y4,y5,y6⟩:=HY.out.c7)|(go_at_call 201;refine(K5.out _ u).mono ?_;rintro e wn ⟨rfl,rfl⟩)|(go_at_call 120;(first|(with_reducible refine(K6.out _ u).mono ?_)|(with_reducible refine(K7.out _ u).mono ?_));rintro e wn ⟨A6,c6,m6,rfl,hm6,v⟩;replace u:=u.trans v;replace HX:=qh (HX.out.up v);replace HY:=qh (HY.out.up v);clear v;have hmz:=m6z m6;rw[hm6]at hmz;simp only[Bool.not_true,Bool.not_false]at hmz;obtain⟨x0,x1,x2,x3,x4,x5,x6,x7,x8,x9⟩:=HX.out.c10;obtain⟨y0,y1,y2,y3,y4,y5,y6⟩:=HY.out.c7)
     go_meet
     exact⟨_,_,rfl,rfl,by first|exact HV.out|(rw[← HV.out];simp_all;done)|(rw[← HV.out];simp_all;omega),u,HX.out,HY.out⟩
    have h3e:d.ha.toList.isEmpty=false:=by simp[h3]
    rcases b7 with _|_
    ·have HV:=qh (show true=!(pk && (sk && hk)) by rw[PK,SK,HHK.out];simp[h3])
     go_wp2_with first|(go_at_call 196;refine(K1.out _).mono ?_;rintro e wn ⟨rfl,v⟩;replace u:=u.trans v;replace HX:=qh (HX.out.up v);replace HY:=qh (HY.out.up v);clear v;obtain⟨x0,x1,x2,x3,x4,x5,x6,x7,x8,x9⟩:=HX.out.c10;obtain⟨y0,y1,y2,y3,y4,y5,y6⟩:=HY.out.c7)|(go_at_call 197;refine(K0.out _ u).mono ?_;rintro e wn ⟨rfl,v⟩;replace u:=u.trans v;replace HX:=qh (HX.out.up v);replace HY:=qh (HY.out.up v);clear v;obtain⟨x0,x1,x2,x3,x4,x5,x6,x7,x8,x9⟩:=HX.out.c10;obtain⟨y0,y1,y2,y3,y4,y5,y6⟩:=HY.out.c7)|(go_at_call 198;refine(K2.out _ u).mono ?_;rintro e wn ⟨rfl,v⟩;replace u:=u.trans v;replace HX:=qh (HX.out.up v);replace HY:=qh (HY.out.up v);clear v;obtain⟨x0,x1,x2,x3,x4,x5,x6,x7,x8,x9⟩:=HX.out.c10;obtain⟨y0,y1,y2,y3,y4,y5,y6⟩:=HY.out.c7)|(go_at_call 199;refine(K3.out _ u HX.out).mono ?_;rintro e wn ⟨rfl,v⟩;replace u:=u.trans v;replace HX:=qh (HX.out.up v);replace HY:=qh (HY.out.up v);clear v;obtain⟨x0,x1,x2,x3,x4,x5,x6,x7,x8,x9⟩:=HX.out.c10;obtain⟨y0,y1,y2,y3,y4,y5,y6⟩:=HY.out.c7)|(go_at_call 201;refine(K5.out _ u).mono ?_;rintro e wn ⟨rfl,rfl⟩)|(go_at_call 120;(first|(with_reducible refine(K6.out _ u).mono ?_)|(with_reducible refine(K7.out _ u).mono ?_));rintro e wn ⟨A6,c6,m6,rfl,hm6,v⟩;replace u:=u.trans v;replace HX:=qh (HX.out.up v);replace HY:=qh (HY.out.up v);clear v;have hmz:=m6z m6;rw[hm6]at hmz;simp only[Bool.not_false]at hmz;obtain⟨x0,x1,x2,x3,x4,x5,x6,x7,x8,x9⟩:=HX.out.c10;obtain⟨y0,y1,y2,y3,y4,y5,y6⟩:=HY.out.c7)
     go_meet
     exact⟨_,_,rfl,rfl,by first|exact HV.out|(rw[← HV.out];simp_all;done)|(rw[← HV.out];simp_all;omega),u,HX.out,HY.out⟩
    have HV:=qh (show false=!(pk && (sk && hk)) by rw[PK,SK,HHK.out];simp)
    go_wp2_with first|(go_at_call 196;refine(K1.out _).mono ?_;rintro e wn ⟨rfl,v⟩;replace u:=u.trans v;replace HX:=qh (HX.out.up v);replace HY:=qh (HY.out.up v);clear v;obtain⟨x0,x1,x2,x3,x4,x5,x6,x7,x8,x9⟩:=HX.out.c10;obtain⟨y0,y1,y2,y3,y4,y5,y6⟩:=HY.out.c7)|(go_at_call 197;refine(K0.out _ u).mono ?_;rintro e wn ⟨rfl,v⟩;replace u:=u.trans v;replace HX:=qh (HX.out.up v);replace HY:=qh (HY.out.up v);clear v;obtain⟨x0,x1,x2,x3,x4,x5,x6,x7,x8,x9⟩:=HX.out.c10;obtain⟨y0,y1,y2,y3,y4,y5,y6⟩:=HY.out.c7)|(go_at_call 198;refine(K2.out _ u).mono ?_;rintro e wn ⟨rfl,v⟩;replace u:=u.trans v;replace HX:=qh (HX.out.up v);replace HY:=qh (HY.out.up v);clear v;obtain⟨x0,x1,x2,x3,x4,x5,x6,x7,x8,x9⟩:=HX.out.c10;obtain⟨y0,y1,y2,y3,y4,y5,y6⟩:=HY.out.c7)|(go_at_call 199;refine(K3.out _ u HX.out).mono ?_;rintro e wn ⟨rfl,v⟩;replace u:=u.trans v;replace HX:=qh (HX.out.up v);replace HY:=qh (HY.out.up v);clear v;obtain⟨x0,x1,x2,x3,x4,x5,x6,x7,x8,x9⟩:=HX.out.c10;obtain⟨y0,y1,y2,y3,y4,y5,y6⟩:=HY.out.c7)|(go_at_call 201;refine(K5.out _ u).mono ?_;rintro e wn ⟨rfl,rfl⟩)|(go_at_call 120;(first|(with_reducible refine(K6.out _ u).mono ?_)|(with_reducible refine(K7.out _ u).mono ?_));rintro e wn ⟨A6,c6,m6,rfl,hm6,v⟩;replace u:=u.trans v;replace HX:=qh (HX.out.up v);replace HY:=qh (HY.out.up v);clear v;have hmz:=m6z m6;rw[hm6]at hmz;simp only[Bool.not_true]at hmz;obtain⟨x0,x1,x2,x3,x4,x5,x6,x7,x8,x9⟩:=HX.out.c10;obtain⟨y0,y1,y2,y3,y4,y5,y6⟩:=HY.out.c7)
    go_meet
    exact⟨_,_,rfl,rfl,by first|exact HV.out|(rw[← HV.out];simp_all;done)|(rw[← HV.out];simp_all;omega),u,HX.out,HY.out⟩
   have h2e:d.se.toList.isEmpty=false:=by simp[h2]
   rcases b6 with _|_
   ·have HV:=qh (show true=!(pk && (sk && hk)) by rw[PK,HSK.out];simp[h2])
    go_wp2_with first|(go_at_call 196;refine(K1.out _).mono ?_;rintro e wn ⟨rfl,v⟩;replace u:=u.trans v;replace HX:=qh (HX.out.up v);replace HY:=qh (HY.out.up v);clear v;obtain⟨x0,x1,x2,x3,x4,x5,x6,x7,x8,x9⟩:=HX.out.c10;obtain⟨y0,y1,y2,y3,y4,y5,y6⟩:=HY.out.c7)|(go_at_call 197;refine(K0.out _ u).mono ?_;rintro e wn ⟨rfl,v⟩;replace u:=u.trans v;replace HX:=qh (HX.out.up v);replace HY:=qh (HY.out.up v);clear v;obtain⟨x0,x1,x2,x3,x4,x5,x6,x7,x8,x9⟩:=HX.out.c10;obtain⟨y0,y1,y2,y3,y4,y5,y6⟩:=HY.out.c7)|(go_at_call 198;refine(K2.out _ u).mono ?_;rintro e wn ⟨rfl,v⟩;replace u:=u.trans v;replace HX:=qh (HX.out.up v);replace HY:=qh (HY.out.up v);clear v;obtain⟨x0,x1,x2,x3,x4,x5,x6,x7,x8,x9⟩:=HX.out.c10;obtain⟨y0,y1,y2,y3,y4,y5,y6⟩:=HY.out.c7)|(go_at_call 199;refine(K3.out _ u HX.out).mono ?_;rintro e wn ⟨rfl,v⟩;replace u:=u.trans v;replace HX:=qh (HX.out.up v);replace HY:=qh (HY.out.up v);clear v;obtain⟨x0,x1,x2,x3,x4,x5,x6,x7,x8,x9⟩:=HX.out.c10;obtain⟨y0,y1,y2,y3,y4,y5,y6⟩:=HY.out.c7)|(go_at_call 201;refine(K5.out _ u).mono ?_;rintro e wn ⟨rfl,rfl⟩)|(go_at_call 120;(first|(with_reducible refine(K6.out _ u).mono ?_)|(with_reducible refine(K7.out _ u).mono ?_));rintro e wn ⟨A6,c6,m6,rfl,hm6,v⟩;replace u:=u.trans v;replace HX:=qh (HX.out.up v);replace HY:=qh (HY.out.up v);clear v;have hmz:=m6z m6;rw[hm6]at hmz;simp only[Bool.not_false]at hmz;obtain⟨x0,x1,x2,x3,x4,x5,x6,x7,x8,x9⟩:=HX.out.c10;obtain⟨y0,y1,y2,y3,y4,y5,y6⟩:=HY.out.c7)
    go_meet
    exact⟨_,_,rfl,rfl,by first|exact HV.out|(rw[← HV.out];simp_all;done)|(rw[← HV.out];simp_all;omega),u,HX.out,HY.out⟩
   have SK:sk=true:=by rw[HSK.out];simp
   by_cases h3:d.ha.toList=[]
   ·have h3e:d.ha.toList.isEmpty=true:=by simp[h3]
    have HV:=qh (show false=!(pk && (sk && hk)) by rw[PK,SK,HHK.out,h3];rfl)
    go_wp2_with first|(go_at_call 196;refine(K1.out _).mono ?_;rintro e wn ⟨rfl,v⟩;replace u:=u.trans v;replace HX:=qh (HX.out.up v);replace HY:=qh (HY.out.up v);clear v;obtain⟨x0,x1,x2,x3,x4,x5,x6,x7,x8,x9⟩:=HX.out.c10;obtain⟨y0,y1,y2,y3,y4,y5,y6⟩:=HY.out.c7)|(go_at_call 197;refine(K0.out _ u).mono ?_;rintro e wn ⟨rfl,v⟩;replace u:=u.trans v;replace HX:=qh (HX.out.up v);replace HY:=qh (HY.out.up v);clear v;obtain⟨x0,x1,x2,x3,x4,x5,x6,x7,x8,x9⟩:=HX.out.c10;obtain⟨y0,y1,y2,y3,y4,y5,y6⟩:=HY.out.c7)|(go_at_call 198;refine(K2.out _ u).mono ?_;rintro e wn ⟨rfl,v⟩;replace u:=u.trans v;replace HX:=qh (HX.out.up v);replace HY:=qh (HY.out.up v);clear v;obtain⟨x0,x1,x2,x3,x4,x5,x6,x7,x8,x9⟩:=HX.out.c10;obtain⟨y0,y1,y2,y3,y4,y5,y6⟩:=HY.out.c7)|(go_at_call 199;refine(K3.out _ u HX.out).mono ?_;rintro e wn ⟨rfl,v⟩;replace u:=u.trans v;replace HX:=qh (HX.out.up v);replace HY:=qh (HY.out.up v);clear v;obtain⟨x0,x1,x2,x3,x4,x5,x6,x7,x8,x9⟩:=HX.out.c10;obtain⟨y0,y1,y2,y3,y4,y5,y6⟩:=HY.out.c7)|(go_at_call 201;refine(K5.out _ u).mono ?_;rintro e wn ⟨rfl,rfl⟩)|(go_at_call 120;(first|(with_reducible refine(K6.out _ u).mono ?_)|(with_reducible refine(K7.out _ u).mono ?_));rintro e wn ⟨A6,c6,m6,rfl,hm6,v⟩;replace u:=u.trans v;replace HX:=qh (HX.out.up v);replace HY:=qh (HY.out.up v);clear v;have hmz:=m6z m6;rw[hm6]at hmz;simp only[Bool.not_true]at hmz;obtain⟨x0,x1,x2,x3,x4,x5,x6,x7,x8,x9⟩:=HX.out.c10;obtain⟨y0,y1,y2,y3,y4,y5,y6⟩:=HY.out.c7)
    go_meet
    exact⟨_,_,rfl,rfl,by first|exact HV.out|(rw[← HV.out];simp_all;done)|(rw[← HV.out];simp_all;omega),u,HX.out,HY.out⟩
   have h3e:d.ha.toList.isEmpty=false:=by simp[h3]
   rcases b7 with _|_
   ·have HV:=qh (show true=!(pk && (sk && hk)) by rw[PK,SK,HHK.out];simp[h3])
    go_wp2_with first|(go_at_call 196;refine(K1.out _).mono ?_;rintro e wn ⟨rfl,v⟩;replace u:=u.trans v;replace HX:=qh (HX.out.up v);replace HY:=qh (HY.out.up v);clear v;obtain⟨x0,x1,x2,x3,x4,x5,x6,x7,x8,x9⟩:=HX.out.c10;obtain⟨y0,y1,y2,y3,y4,y5,y6⟩:=HY.out.c7)|(go_at_call 197;refine(K0.out _ u).mono ?_;rintro e wn ⟨rfl,v⟩;replace u:=u.trans v;replace HX:=qh (HX.out.up v);replace HY:=qh (HY.out.up v);clear v;obtain⟨x0,x1,x2,x3,x4,x5,x6,x7,x8,x9⟩:=HX.out.c10;obtain⟨y0,y1,y2,y3,y4,y5,y6⟩:=HY.out.c7)|(go_at_call 198;refine(K2.out _ u).mono ?_;rintro e wn ⟨rfl,v⟩;replace u:=u.trans v;replace HX:=qh (HX.out.up v);replace HY:=qh (HY.out.up v);clear v;obtain⟨x0,x1,x2,x3,x4,x5,x6,x7,x8,x9⟩:=HX.out.c10;obtain⟨y0,y1,y2,y3,y4,y5,y6⟩:=HY.out.c7)|(go_at_call 199;refine(K3.out _ u HX.out).mono ?_;rintro e wn ⟨rfl,v⟩;replace u:=u.trans v;replace HX:=qh (HX.out.up v);replace HY:=qh (HY.out.up v);clear v;obtain⟨x0,x1,x2,x3,x4,x5,x6,x7,x8,x9⟩:=HX.out.c10;obtain⟨y0,y1,y2,y3,y4,y5,y6⟩:=HY.out.c7)|(go_at_call 201;refine(K5.out _ u).mono ?_;rintro e wn ⟨rfl,rfl⟩)|(go_at_call 120;(first|(with_reducible refine(K6.out _ u).mono ?_)|(with_reducible refine(K7.out _ u).mono ?_));rintro e wn ⟨A6,c6,m6,rfl,hm6,v⟩;replace u:=u.trans v;replace HX:=qh (HX.out.up v);replace HY:=qh (HY.out.up v);clear v;have hmz:=m6z m6;rw[hm6]at hmz;simp only[Bool.not_true,Bool.not_false]at hmz;obtain⟨x0,x1,x2,x3,x4,x5,x6,x7,x8,x9⟩:=HX.out.c10;obtain⟨y0,y1,y2,y3,y4,y5,y6⟩:=HY.out.c7)
    go_meet
    exact⟨_,_,rfl,rfl,by first|exact HV.out|(rw[← HV.out];simp_all;done)|(rw[← HV.out];simp_all;omega),u,HX.out,HY.out⟩
   have HV:=qh (show false=!(pk && (sk && hk)) by rw[PK,SK,HHK.out];simp)
   go_wp2_with first|(go_at_call 196;refine(K1.out _).mono ?_;rintro e wn ⟨rfl,v⟩;replace u:=u.trans v;replace HX:=qh (HX.out.up v);replace HY:=qh (HY.out.up v);clear v;obtain⟨x0,x1,x2,x3,x4,x5,x6,x7,x8,x9⟩:=HX.out.c10;obtain⟨y0,y1,y2,y3,y4,y5,y6⟩:=HY.out.c7)|(go_at_call 197;refine(K0.out _ u).mono ?_;rintro e wn ⟨rfl,v⟩;replace u:=u.trans v;replace HX:=qh (HX.out.up v);replace HY:=qh (HY.out.up v);clear v;obtain⟨x0,x1,x2,x3,x4,x5,x6,x7,x8,x9⟩:=HX.out.c10;obtain⟨y0,y1,y2,y3,y4,y5,y6⟩:=HY.out.c7)|(go_at_call 198;refine(K2.out _ u).mono ?_;rintro e wn ⟨rfl,v⟩;replace u:=u.trans v;replace HX:=qh (HX.out.up v);replace HY:=qh (HY.out.up v);clear v;obtain⟨x0,x1,x2,x3,x4,x5,x6,x7,x8,x9⟩:=HX.out.c10;obtain⟨y0,y1,y2,y3,y4,y5,y6⟩:=HY.out.c7)|(go_at_call 199;refine(K3.out _ u HX.out).mono ?_;rintro e wn ⟨rfl,v⟩;replace u:=u.trans v;replace HX:=qh (HX.out.up v);replace HY:=qh (HY.out.up v);clear v;obtain⟨x0,x1,x2,x3,x4,x5,x6,x7,x8,x9⟩:=HX.out.c10;obtain⟨y0,y1,y2,y3,y4,y5,y6⟩:=HY.out.c7)|(go_at_call 201;refine(K5.out _ u).mono ?_;rintro e wn ⟨rfl,rfl⟩)|(go_at_call 120;(first|(with_reducible refine(K6.out _ u).mono ?_)|(with_reducible refine(K7.out _ u).mono ?_));rintro e wn ⟨A6,c6,m6,rfl,hm6,v⟩;replace u:=u.trans v;replace HX:=qh (HX.out.up v);replace HY:=qh (HY.out.up v);clear v;have hmz:=m6z m6;rw[hm6]at hmz;simp only[Bool.not_true]at hmz;obtain⟨x0,x1,x2,x3,x4,x5,x6,x7,x8,x9⟩:=HX.out.c10;obtain⟨y0,y1,y2,y3,y4,y5,y6⟩:=HY.out.c7)
   go_meet
   exact⟨_,_,rfl,rfl,by first|exact HV.out|(rw[← HV.out];simp_all;done)|(rw[← HV.out];simp_all;omega),u,HX.out,HY.out⟩
  have h1e:d.pl.toList.isEmpty=false:=by simp[h1]
  rcases pz with _|_
  ·have HV:=qh (show true=!(pk && (sk && hk)) by rw[HPK.out];simp[h1])
   go_wp2_with first|(go_at_call 196;refine(K1.out _).mono ?_;rintro e wn ⟨rfl,v⟩;replace u:=u.trans v;replace HX:=qh (HX.out.up v);replace HY:=qh (HY.out.up v);clear v;obtain⟨x0,x1,x2,x3,x4,x5,x6,x7,x8,x9⟩:=HX.out.c10;obtain⟨y0,y1,y2,y3,y4,y5,y6⟩:=HY.out.c7)|(go_at_call 197;refine(K0.out _ u).mono ?_;rintro e wn ⟨rfl,v⟩;replace u:=u.trans v;replace HX:=qh (HX.out.up v);replace HY:=qh (HY.out.up v);clear v;obtain⟨x0,x1,x2,x3,x4,x5,x6,x7,x8,x9⟩:=HX.out.c10;obtain⟨y0,y1,y2,y3,y4,y5,y6⟩:=HY.out.c7)|(go_at_call 198;refine(K2.out _ u).mono ?_;rintro e wn ⟨rfl,v⟩;replace u:=u.trans v;replace HX:=qh (HX.out.up v);replace HY:=qh (HY.out.up v);clear v;obtain⟨x0,x1,x2,x3,x4,x5,x6,x7,x8,x9⟩:=HX.out.c10;obtain⟨y0,y1,y2,y3,y4,y5,y6⟩:=HY.out.c7)|(go_at_call 199;refine(K3.out _ u HX.out).mono ?_;rintro e wn ⟨rfl,v⟩;replace u:=u.trans v;replace HX:=qh (HX.out.up v);replace HY:=qh (HY.out.up v);clear v;obtain⟨x0,x1,x2,x3,x4,x5,x6,x7,x8,x9⟩:=HX.out.c10;obtain⟨y0,y1,y2,y3,y4,y5,y6⟩:=HY.out.c7)|(go_at_call 201;refine(K5.out _ u).mono ?_;rintro e wn ⟨rfl,rfl⟩)|(go_at_call 120;(first|(with_reducible refine(K6.out _ u).mono ?_)|(with_reducible refine(K7.out _ u).mono ?_));rintro e wn ⟨A6,c6,m6,rfl,hm6,v⟩;replace u:=u.trans v;replace HX:=qh (HX.out.up v);replace HY:=qh (HY.out.up v);clear v;have hmz:=m6z m6;rw[hm6]at hmz;simp only[Bool.not_true,Bool.not_false]at hmz;obtain⟨x0,x1,x2,x3,x4,x5,x6,x7,x8,x9⟩:=HX.out.c10;obtain⟨y0,y1,y2,y3,y4,y5,y6⟩:=HY.out.c7)
   go_meet
   exact⟨_,_,rfl,rfl,by first|exact HV.out|(rw[← HV.out];simp_all;done)|(rw[← HV.out];simp_all;omega),u,HX.out,HY.out⟩
  have PK:pk=true:=by rw[HPK.out];simp
  by_cases h2:d.se.toList=[]
  ·have h2e:d.se.toList.isEmpty=true:=by simp[h2]
   have SK:sk=true:=by rw[HSK.out,h2];rfl
   by_cases h3:d.ha.toList=[]
   ·have h3e:d.ha.toList.isEmpty=true:=by simp[h3]
    have HV:=qh (show false=!(pk && (sk && hk)) by rw[PK,SK,HHK.out,h3];rfl)
    go_wp2_with first|(go_at_call 196;refine(K1.out _).mono ?_;rintro e wn ⟨rfl,v⟩;replace u:=u.trans v;replace HX:=qh (HX.out.up v);replace HY:=qh (HY.out.up v);clear v;obtain⟨x0,x1,x2,x3,x4,x5,x6,x7,x8,x9⟩:=HX.out.c10;obtain⟨y0,y1,y2,y3,y4,y5,y6⟩:=HY.out.c7)|(go_at_call 197;refine(K0.out _ u).mono ?_;rintro e wn ⟨rfl,v⟩;replace u:=u.trans v;replace HX:=qh (HX.out.up v);replace HY:=qh (HY.out.up v);clear v;obtain⟨x0,x1,x2,x3,x4,x5,x6,x7,x8,x9⟩:=HX.out.c10;obtain⟨y0,y1,y2,y3,y4,y5,y6⟩:=HY.out.c7)|(go_at_call 198;refine(K2.out _ u).mono ?_;rintro e wn ⟨rfl,v⟩;replace u:=u.trans v;replace HX:=qh (HX.out.up v);replace HY:=qh (HY.out.up v);clear v;obtain⟨x0,x1,x2,x3,x4,x5,x6,x7,x8,x9⟩:=HX.out.c10;obtain⟨y0,y1,y2,y3,y4,y5,y6⟩:=HY.out.c7)|(go_at_call 199;refine(K3.out _ u HX.out).mono ?_;rintro e wn ⟨rfl,v⟩;replace u:=u.trans v;replace HX:=qh (HX.out.up v);replace HY:=qh (HY.out.up v);clear v;obtain⟨x0,x1,x2,x3,x4,x5,x6,x7,x8,x9⟩:=HX.out.c10;obtain⟨y0,y1,y2,y3,y4,y5,y6⟩:=HY.out.c7)|(go_at_call 201;refine(K5.out _ u).mono ?_;rintro e wn ⟨rfl,rfl⟩)|(go_at_call 120;(first|(with_reducible refine(K6.out _ u).mono ?_)|(with_reducible refine(K7.out _ u).mono ?_));rintro e wn ⟨A6,c6,m6,rfl,hm6,v⟩;replace u:=u.trans v;replace HX:=qh (HX.out.up v);replace HY:=qh (HY.out.up v);clear v;have hmz:=m6z m6;rw[hm6]at hmz;simp only[Bool.not_true,Bool.not_false]at hmz;obtain⟨x0,x1,x2,x3,x4,x5,x6,x7,x8,x9⟩:=HX.out.c10;obtain⟨y0,y1,y2,y3,y4,y5,y6⟩:=HY.out.c7)
    go_meet
    exact⟨_,_,rfl,rfl,by first|exact HV.out|(rw[← HV.out];simp_all;done)|(rw[← HV.out];simp_all;omega),u,HX.out,HY.out⟩
   have h3e:d.ha.toList.isEmpty=false:=by simp[h3]
   rcases b7 with _|_
   ·have HV:=qh (show true=!(pk && (sk && hk)) by rw[PK,SK,HHK.out];simp[h3])
    go_wp2_with first|(go_at_call 196;refine(K1.out _).mono ?_;rintro e wn ⟨rfl,v⟩;replace u:=u.trans v;replace HX:=qh (HX.out.up v);replace HY:=qh (HY.out.up v);clear v;obtain⟨x0,x1,x2,x3,x4,x5,x6,x7,x8,x9⟩:=HX.out.c10;obtain⟨y0,y1,y2,y3,y4,y5,y6⟩:=HY.out.c7)|(go_at_call 197;refine(K0.out _ u).mono ?_;rintro e wn ⟨rfl,v⟩;replace u:=u.trans v;replace HX:=qh (HX.out.up v);replace HY:=qh (HY.out.up v);clear v;obtain⟨x0,x1,x2,x3,x4,x5,x6,x7,x8,x9⟩:=HX.out.c10;obtain⟨y0,y1,y2,y3,y4,y5,y6⟩:=HY.out.c7)|(go_at_call 198;refine(K2.out _ u).mono ?_;rintro e wn ⟨rfl,v⟩;replace u:=u.trans v;replace HX:=qh (HX.out.up v);replace HY:=qh (HY.out.up v);clear v;obtain⟨x0,x1,x2,x3,x4,x5,x6,x7,x8,x9⟩:=HX.out.c10;obtain⟨y0,y1,y2,y3,y4,y5,y6⟩:=HY.out.c7)|(go_at_call 199;refine(K3.out _ u HX.out).mono ?_;rintro e wn ⟨rfl,v⟩;replace u:=u.trans v;replace HX:=qh (HX.out.up v);replace HY:=qh (HY.out.up v);clear v;obtain⟨x0,x1,x2,x3,x4,x5,x6,x7,x8,x9⟩:=HX.out.c10;obtain⟨y0,y1,y2,y3,y4,y5,y6⟩:=HY.out.c7)|(go_at_call 201;refine(K5.out _ u).mono ?_;rintro e wn ⟨rfl,rfl⟩)|(go_at_call 120;(first|(with_reducible refine(K6.out _ u).mono ?_)|(with_reducible refine(K7.out _ u).mono ?_));rintro e wn ⟨A6,c6,m6,rfl,hm6,v⟩;replace u:=u.trans v;replace HX:=qh (HX.out.up v);replace HY:=qh (HY.out.up v);clear v;have hmz:=m6z m6;rw[hm6]at hmz;simp only[Bool.not_false]at hmz;obtain⟨x0,x1,x2,x3,x4,x5,x6,x7,x8,x9⟩:=HX.out.c10;obtain⟨y0,y1,y2,y3,y4,y5,y6⟩:=HY.out.c7)
    go_meet
    exact⟨_,_,rfl,rfl,by first|exact HV.out|(rw[← HV.out];simp_all;done)|(rw[← HV.out];simp_all;omega),u,HX.out,HY.out⟩
   have HV:=qh (show false=!(pk && (sk && hk)) by rw[PK,SK,HHK.out];simp)
   go_wp2_with first|(go_at_call 196;refine(K1.out _).mono ?_;rintro e wn ⟨rfl,v⟩;replace u:=u.trans v;replace HX:=qh (HX.out.up v);replace HY:=qh (HY.out.up v);clear v;obtain⟨x0,x1,x2,x3,x4,x5,x6,x7,x8,x9⟩:=HX.out.c10;obtain⟨y0,y1,y2,y3,y4,y5,y6⟩:=HY.out.c7)|(go_at_call 197;refine(K0.out _ u).mono ?_;rintro e wn ⟨rfl,v⟩;replace u:=u.trans v;replace HX:=qh (HX.out.up v);replace HY:=qh (HY.out.up v);clear v;obtain⟨x0,x1,x2,x3,x4,x5,x6,x7,x8,x9⟩:=HX.out.c10;obtain⟨y0,y1,y2,y3,y4,y5,y6⟩:=HY.out.c7)|(go_at_call 198;refine(K2.out _ u).mono ?_;rintro e wn ⟨rfl,v⟩;replace u:=u.trans v;replace HX:=qh (HX.out.up v);replace HY:=qh (HY.out.up v);clear v;obtain⟨x0,x1,x2,x3,x4,x5,x6,x7,x8,x9⟩:=HX.out.c10;obtain⟨y0,y1,y2,y3,y4,y5,y6⟩:=HY.out.c7)|(go_at_call 199;refine(K3.out _ u HX.out).mono ?_;rintro e wn ⟨rfl,v⟩;replace u:=u.trans v;replace HX:=qh (HX.out.up v);replace HY:=qh (HY.out.up v);clear v;obtain⟨x0,x1,x2,x3,x4,x5,x6,x7,x8,x9⟩:=HX.out.c10;obtain⟨y0,y1,y2,y3,y4,y5,y6⟩:=HY.out.c7)|(go_at_call 201;refine(K5.out _ u).mono ?_;rintro e wn ⟨rfl,rfl⟩)|(go_at_call 120;(first|(with_reducible refine(K6.out _ u).mono ?_)|(with_reducible refine(K7.out _ u).mono ?_));rintro e wn ⟨A6,c6,m6,rfl,hm6,v⟩;replace u:=u.trans v;replace HX:=qh (HX.out.up v);replace HY:=qh (HY.out.up v);clear v;have hmz:=m6z m6;rw[hm6]at hmz;simp only[Bool.not_true]at hmz;obtain⟨x0,x1,x2,x3,x4,x5,x6,x7,x8,x9⟩:=HX.out.c10;obtain⟨y0,y1,y2,y3,y4,y5,y6⟩:=HY.out.c7)
   go_meet
   exact⟨_,_,rfl,rfl,by first|exact HV.out|(rw[← HV.out];simp_all;done)|(rw[← HV.out];simp_all;omega),u,HX.out,HY.out⟩
  have h2e:d.se.toList.isEmpty=false:=by simp[h2]
  rcases b6 with _|_
  ·have HV:=qh (show true=!(pk && (sk && hk)) by rw[PK,HSK.out];simp[h2])
   go_wp2_with first|(go_at_call 196;refine(K1.out _).mono ?_;rintro e wn ⟨rfl,v⟩;replace u:=u.trans v;replace HX:=qh (HX.out.up v);replace HY:=qh (HY.out.up v);clear v;obtain⟨x0,x1,x2,x3,x4,x5,x6,x7,x8,x9⟩:=HX.out.c10;obtain⟨y0,y1,y2,y3,y4,y5,y6⟩:=HY.out.c7)|(go_at_call 197;refine(K0.out _ u).mono ?_;rintro e wn ⟨rfl,v⟩;replace u:=u.trans v;replace HX:=qh (HX.out.up v);replace HY:=qh (HY.out.up v);clear v;obtain⟨x0,x1,x2,x3,x4,x5,x6,x7,x8,x9⟩:=HX.out.c10;obtain⟨y0,y1,y2,y3,y4,y5,y6⟩:=HY.out.c7)|(go_at_call 198;refine(K2.out _ u).mono ?_;rintro e wn ⟨rfl,v⟩;replace u:=u.trans v;replace HX:=qh (HX.out.up v);replace HY:=qh (HY.out.up v);clear v;obtain⟨x0,x1,x2,x3,x4,x5,x6,x7,x8,x9⟩:=HX.out.c10;obtain⟨y0,y1,y2,y3,y4,y5,y6⟩:=HY.out.c7)|(go_at_call 199;refine(K3.out _ u HX.out).mono ?_;rintro e wn ⟨rfl,v⟩;replace u:=u.trans v;replace HX:=qh (HX.out.up v);replace HY:=qh (HY.out.up v);clear v;obtain⟨x0,x1,x2,x3,x4,x5,x6,x7,x8,x9⟩:=HX.out.c10;obtain⟨y0,y1,y2,y3,y4,y5,y6⟩:=HY.out.c7)|(go_at_call 201;refine(K5.out _ u).mono ?_;rintro e wn ⟨rfl,rfl⟩)|(go_at_call 120;(first|(with_reducible refine(K6.out _ u).mono ?_)|(with_reducible refine(K7.out _ u).mono ?_));rintro e wn ⟨A6,c6,m6,rfl,hm6,v⟩;replace u:=u.trans v;replace HX:=qh (HX.out.up v);replace HY:=qh (HY.out.up v);clear v;have hmz:=m6z m6;rw[hm6]at hmz;simp only[Bool.not_false]at hmz;obtain⟨x0,x1,x2,x3,x4,x5,x6,x7,x8,x9⟩:=HX.out.c10;obtain⟨y0,y1,y2,y3,y4,y5,y6⟩:=HY.out.c7)
   go_meet
   exact⟨_,_,rfl,rfl,by first|exact HV.out|(rw[← HV.out];simp_all;done)|(rw[← HV.out];simp_all;omega),u,HX.out,HY.out⟩
  have SK:sk=true:=by rw[HSK.out];simp
  by_cases h3:d.ha.toList=[]
  ·have h3e:d.ha.toList.isEmpty=true:=by simp[h3]
   have HV:=qh (show false=!(pk && (sk && hk)) by rw[PK,SK,HHK.out,h3];rfl)
   go_wp2_with first|(go_at_call 196;refine(K1.out _).mono ?_;rintro e wn ⟨rfl,v⟩;replace u:=u.trans v;replace HX:=qh (HX.out.up v);replace HY:=qh (HY.out.up v);clear v;obtain⟨x0,x1,x2,x3,x4,x5,x6,x7,x8,x9⟩:=HX.out.c10;obtain⟨y0,y1,y2,y3,y4,y5,y6⟩:=HY.out.c7)|(go_at_call 197;refine(K0.out _ u).mono ?_;rintro e wn ⟨rfl,v⟩;replace u:=u.trans v;replace HX:=qh (HX.out.up v);replace HY:=qh (HY.out.up v);clear v;obtain⟨x0,x1,x2,x3,x4,x5,x6,x7,x8,x9⟩:=HX.out.c10;obtain⟨y0,y1,y2,y3,y4,y5,y6⟩:=HY.out.c7)|(go_at_call 198;refine(K2.out _ u).mono ?_;rintro e wn ⟨rfl,v⟩;replace u:=u.trans v;replace HX:=qh (HX.out.up v);replace HY:=qh (HY.out.up v);clear v;obtain⟨x0,x1,x2,x3,x4,x5,x6,x7,x8,x9⟩:=HX.out.c10;obtain⟨y0,y1,y2,y3,y4,y5,y6⟩:=HY.out.c7)|(go_at_call 199;refine(K3.out _ u HX.out).mono ?_;rintro e wn ⟨rfl,v⟩;replace u:=u.trans v;replace HX:=qh (HX.out.up v);replace HY:=qh (HY.out.up v);clear v;obtain⟨x0,x1,x2,x3,x4,x5,x6,x7,x8,x9⟩:=HX.out.c10;obtain⟨y0,y1,y2,y3,y4,y5,y6⟩:=HY.out.c7)|(go_at_call 201;refine(K5.out _ u).mono ?_;rintro e wn ⟨rfl,rfl⟩)|(go_at_call 120;(first|(with_reducible refine(K6.out _ u).mono ?_)|(with_reducible refine(K7.out _ u).mono ?_));rintro e wn ⟨A6,c6,m6,rfl,hm6,v⟩;replace u:=u.trans v;replace HX:=qh (HX.out.up v);replace HY:=qh (HY.out.up v);clear v;have hmz:=m6z m6;rw[hm6]at hmz;simp only[Bool.not_true]at hmz;obtain⟨x0,x1,x2,x3,x4,x5,x6,x7,x8,x9⟩:=HX.out.c10;obtain⟨y0,y1,y2,y3,y4,y5,y6⟩:=HY.out.c7)
   go_meet
   exact⟨_,_,rfl,rfl,by first|exact HV.out|(rw[← HV.out];simp_all;done)|(rw[← HV.out];simp_all;omega),u,HX.out,HY.out⟩
  have h3e:d.ha.toList.isEmpty=false:=by simp[h3]
  rcases b7 with _|_
  ·have HV:=qh (show true=!(pk && (sk && hk)) by rw[PK,SK,HHK.out];simp[h3])
   go_wp2_with first|(go_at_call 196;refine(K1.out _).mono ?_;rintro e wn ⟨rfl,v⟩;replace u:=u.trans v;replace HX:=qh (HX.out.up v);replace HY:=qh (HY.out.up v);clear v;obtain⟨x0,x1,x2,x3,x4,x5,x6,x7,x8,x9⟩:=HX.out.c10;obtain⟨y0,y1,y2,y3,y4,y5,y6⟩:=HY.out.c7)|(go_at_call 197;refine(K0.out _ u).mono ?_;rintro e wn ⟨rfl,v⟩;replace u:=u.trans v;replace HX:=qh (HX.out.up v);replace HY:=qh (HY.out.up v);clear v;obtain⟨x0,x1,x2,x3,x4,x5,x6,x7,x8,x9⟩:=HX.out.c10;obtain⟨y0,y1,y2,y3,y4,y5,y6⟩:=HY.out.c7)|(go_at_call 198;refine(K2.out _ u).mono ?_;rintro e wn ⟨rfl,v⟩;replace u:=u.trans v;replace HX:=qh (HX.out.up v);replace HY:=qh (HY.out.up v);clear v;obtain⟨x0,x1,x2,x3,x4,x5,x6,x7,x8,x9⟩:=HX.out.c10;obtain⟨y0,y1,y2,y3,y4,y5,y6⟩:=HY.out.c7)|(go_at_call 199;refine(K3.out _ u HX.out).mono ?_;rintro e wn ⟨rfl,v⟩;replace u:=u.trans v;replace HX:=qh (HX.out.up v);replace HY:=qh (HY.out.up v);clear v;obtain⟨x0,x1,x2,x3,x4,x5,x6,x7,x8,x9⟩:=HX.out.c10;obtain⟨y0,y1,y2,y3,y4,y5,y6⟩:=HY.out.c7)|(go_at_call 201;refine(K5.out _ u).mono ?_;rintro e wn ⟨rfl,rfl⟩)|(go_at_call 120;(first|(with_reducible refine(K6.out _ u).mono ?_)|(with_reducible refine(K7.out _ u).mono ?_));rintro e wn ⟨A6,c6,m6,rfl,hm6,v⟩;replace u:=u.trans v;replace HX:=qh (HX.out.up v);replace HY:=qh (HY.out.up v);clear v;have hmz:=m6z m6;rw[hm6]at hmz;simp only[Bool.not_true,Bool.not_false]at hmz;obtain⟨x0,x1,x2,x3,x4,x5,x6,x7,x8,x9⟩:=HX.out.c10;obtain⟨y0,y1,y2,y3,y4,y5,y6⟩:=HY.out.c7)
   go_meet
   exact⟨_,_,rfl,rfl,by first|exact HV.out|(rw[← HV.out];simp_all;done)|(rw[← HV.out];simp_all;omega),u,HX.out,HY.out⟩
  have HV:=qh (show false=!(pk && (sk && hk)) by rw[PK,SK,HHK.out];simp)
  go_wp2_with first|(go_at_call 196;refine(K1.out _).mono ?_;rintro e wn ⟨rfl,v⟩;replace u:=u.trans v;replace HX:=qh (HX.out.up v);replace HY:=qh (HY.out.up v);clear v;obtain⟨x0,x1,x2,x3,x4,x5,x6,x7,x8,x9⟩:=HX.out.c10;obtain⟨y0,y1,y2,y3,y4,y5,y6⟩:=HY.out.c7)|(go_at_call 197;refine(K0.out _ u).mono ?_;rintro e wn ⟨rfl,v⟩;replace u:=u.trans v;replace HX:=qh (HX.out.up v);replace HY:=qh (HY.out.up v);clear v;obtain⟨x0,x1,x2,x3,x4,x5,x6,x7,x8,x9⟩:=HX.out.c10;obtain⟨y0,y1,y2,y3,y4,y5,y6⟩:=HY.out.c7)|(go_at_call 198;refine(K2.out _ u).mono ?_;rintro e wn ⟨rfl,v⟩;replace u:=u.trans v;replace HX:=qh (HX.out.up v);replace HY:=qh (HY.out.up v);clear v;obtain⟨x0,x1,x2,x3,x4,x5,x6,x7,x8,x9⟩:=HX.out.c10;obtain⟨y0,y1,y2,y3,y4,y5,y6⟩:=HY.out.c7)|(go_at_call 199;refine(K3.out _ u HX.out).mono ?_;rintro e wn ⟨rfl,v⟩;replace u:=u.trans v;replace HX:=qh (HX.out.up v);replace HY:=qh (HY.out.up v);clear v;obtain⟨x0,x1,x2,x3,x4,x5,x6,x7,x8,x9⟩:=HX.out.c10;obtain⟨y0,y1,y2,y3,y4,y5,y6⟩:=HY.out.c7)|(go_at_call 201;refine(K5.out _ u).mono ?_;rintro e wn ⟨rfl,rfl⟩)|(go_at_call 120;(first|(with_reducible refine(K6.out _ u).mono ?_)|(with_reducible refine(K7.out _ u).mono ?_));rintro e wn ⟨A6,c6,m6,rfl,hm6,v⟩;replace u:=u.trans v;replace HX:=qh (HX.out.up v);replace HY:=qh (HY.out.up v);clear v;have hmz:=m6z m6;rw[hm6]at hmz;simp only[Bool.not_true]at hmz;obtain⟨x0,x1,x2,x3,x4,x5,x6,x7,x8,x9⟩:=HX.out.c10;obtain⟨y0,y1,y2,y3,y4,y5,y6⟩:=HY.out.c7)
  go_meet
  exact⟨_,_,rfl,rfl,by first|exact HV.out|(rw[← HV.out];simp_all;done)|(rw[← HV.out];simp_all;omega),u,HX.out,HY.out⟩
 case rest =>
 obtain⟨W1,bo,hW,rfl,hbo,u1,X1,Y1⟩:=hcut
 subst hW;have HBO:=qh hbo
 clear hbo u0 u HX HY K0 K1 K2 K3 K5 K6 K7 HPK HSK HHK x0 x1 x2 x3 x4 x5 x6 x7 x8 x9 y0 y1 y2 y3 y4 y5 y6 r0 r1 r2 r3 r4 r5 r6;rcases bo with _|_
 rotate_left
 ·go_wp2
  go_ret;exact⟨ret_bool (by rw[HE2.out];exact(bo_t HBO.out).symm),u1⟩
 have HE:=qh (show ddQ x.p (l.map Dd.p) k d.p=allK d.ci.l (ctQ (l.map Dd.p) d.p) by rw[HE2.out];exact bo_f HBO.out)
 clear HBO HE2;have hcr:=HCI.out.rd
 have hchi:=HCI.out.hhi
 have hcn:d.ci.l.length≤2000000:=HCI.out.len
 have hcc:d.ci.l.length≤d.ci.c:=HCI.out.cap.1
 have hcm:d.ci.c≤maxLen:=HCI.out.cap.2
 have hcok:=qh HCI.out.ok
 unfold maxLen at hcm
 have HY1:=qh Y1
 clear X1 Y1;obtain⟨CC,hCC⟩:∃z,z=d.ci.l:=⟨_,rfl⟩
 obtain⟨CA,hCA⟩:∃z,z=d.ci.A:=⟨_,rfl⟩
 obtain⟨cc,hcc2⟩:∃z,z=d.ci.c:=⟨_,rfl⟩
 obtain⟨nm,hnm⟩:∃z,z=d.nm:=⟨_,rfl⟩
 obtain⟨q6,hq6⟩:∃z,z=(W1,CC.length):=⟨_,rfl⟩
 clear q6 hq6;obtain⟨y0,-,-,-,-,-,y6⟩:=HY1.out.c7
 have HCT:=qh (fun(m:Nat) (z:ByteArray)=>show ctQ (l.map Dd.p) d.p m z=((!(z.toList==nm.toList)) && (decide (0≤dIx l z) && !decide (0≤txIx (CC.take m) z))) by rw[dIx_in,tx_in,hnm,hCC];rfl)
 rw[← hCC]at hcr hcn hcc h8' y6;rw[← hCA]at hcr y6;rw[← hcc2]at hcc hcm y6;rw[← hnm]at y0;have HEC:=qh (show ddQ x.p (l.map Dd.p) k d.p=allK CC (ctQ (l.map Dd.p) d.p) by rw[HE.out,hCC])
 clear HE hCC hCA hcc2 hnm hcok HY1;go_wp2;go_loopw [8,9,91] (fun u8 u9 i wr=>∃m:Nat,m≤CC.length∧i=.int .i64 m∧(∀j z,j<m→CC[j]?=some z→ctQ (l.map Dd.p) d.p j z=true)∧Up W1 wr) (fun _ _ i _=>CC.length-(intOf i).toNat)
 case atStart=>exact⟨0,Nat.zero_le _,rfl,fun j d h=>absurd h (by omega),Up.refl _⟩
 case round =>
  obtain⟨m,hm,rfl,ha',hup⟩:=hrel
  have HA:=qh ha'
  clear ha';have Y0:=hup.cell y0
  have Y6:=hup.cell y6
  by_cases hlt:m<CC.length
  ·have R:=qh ((hcr.take m).up (u1.trans hup) hchi)
   obtain⟨cb,coff,z,rfl,-,-,hz,q0⟩:=(hcr.up (u1.trans hup) hchi).txt hlt
   have HD:=qh hz
   clear hz;have hkc:m≤cc:=by omega
   have hhr:hi≤wr.heap.size:=Nat.le_trans hchi (u1.trans hup).size
   obtain⟨fz,hfz⟩:∃t,t=dIx l z:=⟨_,rfl⟩
   obtain⟨tb,htb⟩:∃t,t=decide (0≤txIx (CC.take m) z):=⟨_,rfl⟩
   have cF:Calls Tryz.prog 197 #[.slice (some ⟨b,off,none⟩) l.length sc,.string z] wr fun e w'=>e=.returned (.int .i64 fz)∧Up wr w':=by
    rw[hfz];exact deedIndex_any (some ⟨b,off,none⟩) l sc lo hi z wr (HLR.out.up (u1.trans hup) hlh) (Nat.le_trans hlh (u1.trans hup).size) hln
   have cT:∀wx,Up wr wx→Calls Tryz.prog 201 #[.slice (some ⟨cb,coff,none⟩) m cc,.string z] wx fun e w'=>e=.returned (.bool tb)∧wx=w':=fun wx ux=>by
    have h:=txContains_any (some ⟨cb,coff,none⟩) (CC.take m) cc lo hi z wx (R.out.up ux hhr) (by rw[List.length_take];omega)
    rw[List.length_take,Nat.min_eq_left hm]at h;rw[htb];exact h
   have CF:=qh cF
   have CT:=qh cT
   have HQ:=qh (show ctQ (l.map Dd.p) d.p m z=((!(z.toList==nm.toList)) && (decide (0≤fz) && !tb)) by rw[HCT.out,htb,hfz])
   clear hfz htb cF cT;rcases he:(z.toList==nm.toList) with _|_
   rotate_left
   ·have HEQ:=qh he
    go_wp2;go_ret;exact⟨ret_bool (by rw[HEC.out];exact(ctno HD.out (by rw[HQ.out,HEQ.out];rfl)).symm),u1.trans hup⟩
   have HEQ:=qh he
   by_cases h1:fz<0
   ·have HN1:=qh (show decide (0≤fz)=false by simp;omega)
    go_wp2_with (go_at_call 197;refine CF.out.mono ?_;rintro e w2 ⟨rfl,v⟩)
    go_ret;exact⟨ret_bool (by rw[HEC.out];exact(ctno HD.out (by rw[HQ.out,HEQ.out,HN1.out];rfl)).symm),u1.trans (hup.trans v)⟩
   have HN1:=qh (show decide (0≤fz)=true by simp;omega)
   rcases tb with _|_
   rotate_left
   ·go_wp2_with first|(go_at_call 197;refine CF.out.mono ?_;rintro e w2 ⟨rfl,v⟩;have Y6:=v.cell Y6)|(go_at_call 201;refine(CT.out _ v).mono ?_;rintro e w3 ⟨rfl,rfl⟩)
    go_ret;exact⟨ret_bool (by rw[HEC.out];exact(ctno HD.out (by rw[HQ.out,HEQ.out,HN1.out];rfl)).symm),u1.trans (hup.trans v)⟩
   have HG:=qh (show ctQ (l.map Dd.p) d.p m z=true by rw[HQ.out,HEQ.out,HN1.out];rfl)
   go_wp2_with first|(go_at_call 197;refine CF.out.mono ?_;rintro e w2 ⟨rfl,v⟩;have Y6:=v.cell Y6)|(go_at_call 201;refine(CT.out _ v).mono ?_;rintro e w3 ⟨rfl,rfl⟩)
   go_roundw
   case rel=>exact⟨m+1,by omega,by go_num,allK_step HA.out HD.out HG.out,hup.trans v⟩
   case measure=>simp[intOf];omega
  ·have HF:=qh (allK_end (l:=CC) (q:=ctQ (l.map Dd.p) d.p) (fun j d hj hd=>HA.out j d (by omega) hd))
   go_wp2;go_ret;exact⟨ret_bool (by rw[HEC.out,HF.out]),u1.trans hup⟩
theorem implAreDeeds_of(x:Wd)(s:Sl Dd)(lo hi:Nat)(w:World)(h:RdW w lo hi x)(h2:RdDd w lo hi s)
 (hIW:∀wx,Up w wx→Calls Tryz.prog 155 #[x.val] wx fun e w'=>e=.returned (.bool (wdB x.p))∧Up wx w') :
 Calls Tryz.prog 110 #[x.val,.slice s.A s.l.length s.c] w fun e w'=>e=.returned (.bool (dsB x.p (s.l.map Dd.p)))∧Up w w':=by
 obtain⟨SA,sc,l⟩:=s
 have hcn:l.length≤2000000:=h2.len
 have H2:=qh h2
 clear h2;obtain⟨b1,hb1⟩:∃z,z=wdB x.p:=⟨_,rfl⟩
 simp only[← hb1]at hIW
 have K1:=qh hIW
 have HB:=qh hb1
 have HW:=qh h
 have HE:=qh (show dsB x.p (l.map Dd.p)=(b1 && (decide (l.length≤8) && allK (l.map Dd.p) (ddQ x.p (l.map Dd.p)))) by unfold dsB;rw[hb1,List.length_map])
 clear hIW hb1 h;have hX:=Bx.new w #[.slice x.rs.A x.rs.l.length x.rs.c,.int .i64 x.fr,.int .i64 x.to_,.slice x.ps.A x.ps.l.length x.ps.c,.slice x.ts.A x.ts.l.length x.ts.c,.slice x.pl.A x.pl.l.length x.pl.c,.slice x.ws.A x.ws.l.length x.ws.c,.slice x.st.A x.st.l.length x.st.c,.slice x.se.A x.se.l.length x.se.c,.slice x.ha.A x.ha.l.length x.ha.c] 59
 have u:Up w (w.alloc (.cells #[.slice x.rs.A x.rs.l.length x.rs.c,.int .i64 x.fr,.int .i64 x.to_,.slice x.ps.A x.ps.l.length x.ps.c,.slice x.ts.A x.ts.l.length x.ts.c,.slice x.pl.A x.pl.l.length x.pl.c,.slice x.ws.A x.ws.l.length x.ws.c,.slice x.st.A x.st.l.length x.st.c,.slice x.se.A x.se.l.length x.se.c,.slice x.ha.A x.ha.l.length x.ha.c] 59)):=Up.alloc _ _
 go_enter Tryz.func110,Tryz.ntmps110
 go_wp2_with fail
 generalize w.alloc (.cells #[.slice x.rs.A x.rs.l.length x.rs.c,.int .i64 x.fr,.int .i64 x.to_,.slice x.ps.A x.ps.l.length x.ps.c,.slice x.ts.A x.ts.l.length x.ts.c,.slice x.pl.A x.pl.l.length x.pl.c,.slice x.ws.A x.ws.l.length x.ws.c,.slice x.st.A x.st.l.length x.st.c,.slice x.se.A x.se.l.length x.se.c,.slice x.ha.A x.ha.l.length x.ha.c] 59)=w0 at *
 have HX:=qh hX
 clear hX;obtain⟨x0,x1,x2,x3,x4,x5,x6,x7,x8,x9⟩:=HX.out.c10
 rcases b1 with _|_
 ·go_wp2_with first|(go_at_call 155;refine(K1.out _ u).mono ?_;rintro e wn ⟨rfl,v⟩;replace u:=u.trans v;replace HX:=qh (HX.out.up v);clear v;obtain⟨x0,x1,x2,x3,x4,x5,x6,x7,x8,x9⟩:=HX.out.c10)
  all_goals (go_ret;exact⟨ret_bool (by rw[HE.out];rfl),u⟩)
 by_cases h8:l.length≤8
 rotate_left
 ·have h8':8<l.length:=by omega
  go_wp2_with first|(go_at_call 155;refine(K1.out _ u).mono ?_;rintro e wn ⟨rfl,v⟩;replace u:=u.trans v;replace HX:=qh (HX.out.up v);clear v;obtain⟨x0,x1,x2,x3,x4,x5,x6,x7,x8,x9⟩:=HX.out.c10)
  all_goals (go_ret;exact⟨ret_bool (by rw[HE.out];simp[h8]),u⟩)
 have h8':¬ 8<l.length:=by omega
 have HD0:=qh (show wdB x.p=true from HB.out.symm)
 have HE2:=qh (show dsB x.p (l.map Dd.p)=allK (l.map Dd.p) (ddQ x.p (l.map Dd.p)) by rw[HE.out,decide_eq_true h8];rfl)
 clear HE HB;go_wp2_with first|(go_at_call 155;refine(K1.out _ u).mono ?_;rintro e wn ⟨rfl,v⟩;replace u:=u.trans v;replace HX:=qh (HX.out.up v);clear v;obtain⟨x0,x1,x2,x3,x4,x5,x6,x7,x8,x9⟩:=HX.out.c10)
 clear x0 x1 x2 x3 x4 x5 x6 x7 x8 x9 K1;have u0:=u
 clear u;obtain⟨wb,rfl⟩:∃z,z=wn:=⟨_,rfl⟩
 go_loopw [5,16] (fun u5 i wr=>∃k:Nat,k≤l.length∧i=.int .i64 k∧(∀j z,j<k→(l.map Dd.p)[j]?=some z→ddQ x.p (l.map Dd.p) j z=true)∧Up wb wr) (fun _ i _=>l.length-(intOf i).toNat)
 case atStart=>exact⟨0,Nat.zero_le _,rfl,fun j d h=>absurd h (by omega),Up.refl _⟩
 case round =>
  obtain⟨k,hk,rfl,ha',hup⟩:=hrel
  have HA:=qh ha'
  clear ha';obtain⟨x0,x1,x2,x3,x4,x5,x6,x7,x8,x9⟩:=(HX.out.up hup).c10
  by_cases hlt:k<l.length
  ·obtain⟨d,hd⟩:∃d,l[k]?=some d:=⟨_,List.getElem?_eq_getElem hlt⟩
   have hDM:(l.map Dd.p)[k]?=some d.p:=by rw[List.getElem?_map,hd];rfl
   have HDM:=qh hDM
   obtain⟨db,hdb⟩:∃t,t=ddQ x.p (l.map Dd.p) k d.p:=⟨_,rfl⟩
   have cD:=isDeed_any x ⟨SA,sc,l⟩ k d lo hi wr (HW.out.up (u0.trans hup)) (H2.out.up (u0.trans hup)) hd HD0.out
   simp only[← hdb]at cD
   have CD:=qh cD
   have HQ:=qh hdb
   clear cD hdb hd hDM;rcases db with _|_
   ·go_wp2_with (go_at_call 156;refine CD.out.mono ?_;rintro e w2 ⟨rfl,hup2⟩)
    go_ret;exact⟨ret_bool (by rw[HE2.out];exact(allK_no HDM.out HQ.out.symm).symm),u0.trans (hup.trans hup2)⟩
   ·go_wp2_with (go_at_call 156;refine CD.out.mono ?_;rintro e w2 ⟨rfl,hup2⟩)
    go_roundw
    case rel=>exact⟨k+1,by omega,by go_num,allK_step HA.out HDM.out HQ.out.symm,hup.trans hup2⟩
    case measure=>simp[intOf];omega
  ·have HF:=qh (allK_end (l:=l.map Dd.p) (q:=ddQ x.p (l.map Dd.p)) (fun j d hj hd=>HA.out j d (by rw[List.length_map]at hj;omega) hd))
   go_wp2;go_ret;exact⟨ret_bool (by rw[HE2.out,HF.out]),u0.trans hup⟩
theorem implIsItinerary_any(s:Sl ByteArray)(t st:Sl I3)(lo hi:Nat)(w:World)(h:SrSt w lo hi s)(h2:SrI3 w lo hi t)(h3:SrI3 w lo hi st) :
 Calls Tryz.prog 194 #[.agg #[.slice s.A s.l.length s.c,.slice t.A t.l.length t.c],.slice st.A st.l.length st.c] w fun e w'=>e=.returned (.bool (itB s.l t.l st.l))∧Up w w' :=
 implIsItinerary_of s t st lo hi w h h2 h3 fun wx u hl=>by
  obtain⟨h1,h4,-,h5⟩:=ldB_yes hl
  exact travels_any s t lo hi wx h1 h4 h5 (h2.up u)
theorem implIsWorld_any(x:Wd)(lo hi:Nat)(w:World)(h:RdW w lo hi x) :
 Calls Tryz.prog 155 #[x.val] w fun e w'=>e=.returned (.bool (wdB x.p))∧Up w w' :=
 implIsWorld_of x lo hi w h fun wx u=>implIsItinerary_any x.pl x.ws x.st lo hi wx (h.pl.up u) (h.ws.up u) (h.st.up u)
theorem implAreDeeds_any(x:Wd)(s:Sl Dd)(lo hi:Nat)(w:World)(h:RdW w lo hi x)(h2:RdDd w lo hi s) :
 Calls Tryz.prog 110 #[x.val,.slice s.A s.l.length s.c] w fun e w'=>e=.returned (.bool (dsB x.p (s.l.map Dd.p)))∧Up w w' :=
 implAreDeeds_of x s lo hi w h h2 fun wx u=>implIsWorld_any x lo hi wx (h.up u)
end Go.Proofs.YtihcmhmanfobcaaGreatDoor
