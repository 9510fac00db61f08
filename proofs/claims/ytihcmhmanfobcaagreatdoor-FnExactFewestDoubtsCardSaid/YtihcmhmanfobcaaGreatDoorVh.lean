/- Deeds and lists of deeds by the reference. -/
import Derived.Test.YtihcmhmanfobcaaGreatDoorVg
import Derived.Deep.Cut
import Derived.Deep.DeepCutAuto
set_option maxHeartbeats 16000000
set_option maxRecDepth 100000
namespace Go.Proofs.YtihcmhmanfobcaaGreatDoor
open Go.RowKit Go.Sort
theorem l16DaysN(s:Sl Nm)(nm:ByteArray)(lo hi:Nat)(w:World)(h:SrNm w lo hi s)(ha:amB s.l=true) :
 Calls Tryz.prog 54 #[.slice s.A s.l.length s.c,.string nm] w fun e w'=>∃A c m,e=.returned (.slice A m c)∧decide (0<m)=nmIn s.l nm∧Up w w':=by
 simp only[amB,Bool.and_eq_true,decide_eq_true_eq]at ha
 refine(l16Days_any s nm lo hi w h (by omega) (fun d hd=>?_)).mono fun e w' ⟨v,he,ho,hu⟩=>?_
 ·obtain⟨j,hj,e⟩:=List.getElem_of_mem hd
  have:=allK_yes ha.1 (k:=j) (d:=d) (by rw[List.getElem?_eq_getElem hj,e])
  simp only[amQ,rgB,Bool.and_eq_true]at this
  exact this.1.2
 ·obtain⟨A,c,rfl,-,-,-,-⟩:=own_form ho
  exact⟨A,c,_,he,mkL_nil _ _,hu⟩
theorem ctno{α:Type}{l:List α}{q:Nat→α→Bool}{k:Nat}{d:α}(hd:l[k]?=some d)(h:q k d=false):allK l q=false:=allK_no hd h
theorem bo_t{a b c r:Bool}(h:true=!(a && (b && c))):(a && (b && (c && r)))=false:=by revert h;cases a<;>cases b<;>cases c<;>cases r<;>decide
theorem bo_f{a b c r:Bool}(h:false=!(a && (b && c))):(a && (b && (c && r)))=r:=by revert h;cases a<;>cases b<;>cases c<;>cases r<;>decide
theorem m6z(m:Nat):((m:Int)==0)=!decide (0<m):=by
 rcases Nat.eq_zero_or_pos m with h|h
 ·subst h;rfl
 ·rw[decide_eq_true h];simp;omega
theorem wd_parts{x:Pw}(h:wdB x=true):ppB x.ps x.ts=true∧amB x.se=true∧amB x.ha=true:=by
 simp only[wdB,Bool.and_eq_true]at h
 exact⟨h.2.1,h.2.2.2.1,h.2.2.2.2⟩
theorem d0_parts(w:Pw)(l:List Pd)(d:Pd):d0B w l d=(nameB d.nm 12 && (dtB d.da && (wiB w.ps d.wi && (decide (d.ci.length≤8) && (((d.pl.toList==[]) || w.pl.any fun x=>x.toList==d.pl.toList) && (((d.se.toList==[]) || nmIn w.se d.se) && (((d.ha.toList==[]) || nmIn w.ha d.ha) && allK d.ci (ctQ l d)))))))):=by
 unfold d0B wiB
 simp only[Bool.and_assoc]
theorem l17Deed_any(x:Wd)(s:Sl Dd)(d:Dd)(lo hi:Nat)(w:World)(h:RdW w lo hi x)(h2:RdDd w lo hi s)(h3:RdE w lo hi d)(hw:wdB x.p=true) :
 Calls Tryz.prog 142 #[x.val,.slice s.A s.l.length s.c,d.val] w fun e w'=>e=.returned (.bool (d0B x.p (s.l.map Dd.p) d.p))∧Up w w':=by
 obtain⟨hpp,hse,hha⟩:=wd_parts hw
 obtain⟨b1,hb1⟩:∃z,z=nameB d.nm 12:=⟨_,rfl⟩
 obtain⟨b2,hb2⟩:∃z,z=dtB d.da.l:=⟨_,rfl⟩
 obtain⟨b3,hb3⟩:∃z,z=wiB x.ps.l d.wi.l:=⟨_,rfl⟩
 obtain⟨pz,hpz⟩:∃z,z=txIx x.pl.l d.pl:=⟨_,rfl⟩
 obtain⟨b6,hb6⟩:∃z,z=nmIn x.se.l d.se:=⟨_,rfl⟩
 obtain⟨b7,hb7⟩:∃z,z=nmIn x.ha.l d.ha:=⟨_,rfl⟩
 have HE:=qh (show d0B x.p (s.l.map Dd.p) d.p=(b1 && (b2 && (b3 && (decide (d.ci.l.length≤8) && (((d.pl.toList==[]) || decide (0≤pz)) && (((d.se.toList==[]) || b6) && (((d.ha.toList==[]) || b7) && allK d.ci.l (ctQ (s.l.map Dd.p) d.p)))))))) by rw[d0_parts,hb1,hb2,hb3,hpz,tx_in,hb6,hb7])
 have c1:=fun wx=>l01Name_any d.nm 12 wx h3.nm
 have c2:=fun wx (u:Up w wx)=>specIsDating_any d.da lo hi wx (h3.da.up u)
 have c3:=fun wx (u:Up w wx)=>l13Code_any x.ps x.ts d.wi lo hi wx (h.ps.up u) (h.ts.up u) (h3.wi.up u) hpp
 have c5:=fun wx (u:Up w wx)=>l01TextB_any x.pl.A x.pl.l x.pl.c lo hi d.pl wx (h.pl.up u).rd h.pl.len
 have c6:=fun wx (u:Up w wx)=>l16DaysN x.se d.se lo hi wx (h.se.up u) hse
 have c7:=fun wx (u:Up w wx)=>l16DaysN x.ha d.ha lo hi wx (h.ha.up u) hha
 simp only[← hb1]at c1
 simp only[← hb2]at c2
 simp only[← hb3]at c3
 simp only[← hpz]at c5
 simp only[← hb6]at c6
 simp only[← hb7]at c7
 have K1:=qh c1
 have K2:=qh c2
 have K3:=qh c3
 have K5:=qh c5
 have K6:=qh c6
 have K7:=qh c7
 have H2:=qh h2
 have HCI:=qh h3.ci
 clear hb1 hb2 hb3 hpz hb6 hb7 c1 c2 c3 c5 c6 c7 h h2 h3 hw hpp hse hha;have hX0:=Bx.new w #[.slice x.rs.A x.rs.l.length x.rs.c,.int .i64 x.fr,.int .i64 x.to_,.slice x.ps.A x.ps.l.length x.ps.c,.slice x.ts.A x.ts.l.length x.ts.c,.slice x.pl.A x.pl.l.length x.pl.c,.slice x.ws.A x.ws.l.length x.ws.c,.slice x.st.A x.st.l.length x.st.c,.slice x.se.A x.se.l.length x.se.c,.slice x.ha.A x.ha.l.length x.ha.c] 59
 have hX:=hX0.up (Up.alloc _ (.cells #[.string d.nm,.slice d.da.A d.da.l.length d.da.c,.slice d.wi.A d.wi.l.length d.wi.c,.string d.pl,.string d.se,.string d.ha,.slice d.ci.A d.ci.l.length d.ci.c] 81))
 have hY:Bx ((w.alloc (.cells #[.slice x.rs.A x.rs.l.length x.rs.c,.int .i64 x.fr,.int .i64 x.to_,.slice x.ps.A x.ps.l.length x.ps.c,.slice x.ts.A x.ts.l.length x.ts.c,.slice x.pl.A x.pl.l.length x.pl.c,.slice x.ws.A x.ws.l.length x.ws.c,.slice x.st.A x.st.l.length x.st.c,.slice x.se.A x.se.l.length x.se.c,.slice x.ha.A x.ha.l.length x.ha.c] 59)).alloc (.cells #[.string d.nm,.slice d.da.A d.da.l.length d.da.c,.slice d.wi.A d.wi.l.length d.wi.c,.string d.pl,.string d.se,.string d.ha,.slice d.ci.A d.ci.l.length d.ci.c] 81)) (w.heap.size+1) [.string d.nm,.slice d.da.A d.da.l.length d.da.c,.slice d.wi.A d.wi.l.length d.wi.c,.string d.pl,.string d.se,.string d.ha,.slice d.ci.A d.ci.l.length d.ci.c]:=by
  have:=Bx.new (w.alloc (.cells #[.slice x.rs.A x.rs.l.length x.rs.c,.int .i64 x.fr,.int .i64 x.to_,.slice x.ps.A x.ps.l.length x.ps.c,.slice x.ts.A x.ts.l.length x.ts.c,.slice x.pl.A x.pl.l.length x.pl.c,.slice x.ws.A x.ws.l.length x.ws.c,.slice x.st.A x.st.l.length x.st.c,.slice x.se.A x.se.l.length x.se.c,.slice x.ha.A x.ha.l.length x.ha.c] 59)) #[.string d.nm,.slice d.da.A d.da.l.length d.da.c,.slice d.wi.A d.wi.l.length d.wi.c,.string d.pl,.string d.se,.string d.ha,.slice d.ci.A d.ci.l.length d.ci.c] 81
  simpa using this
 have u:Up w ((w.alloc (.cells #[.slice x.rs.A x.rs.l.length x.rs.c,.int .i64 x.fr,.int .i64 x.to_,.slice x.ps.A x.ps.l.length x.ps.c,.slice x.ts.A x.ts.l.length x.ts.c,.slice x.pl.A x.pl.l.length x.pl.c,.slice x.ws.A x.ws.l.length x.ws.c,.slice x.st.A x.st.l.length x.st.c,.slice x.se.A x.se.l.length x.se.c,.slice x.ha.A x.ha.l.length x.ha.c] 59)).alloc (.cells #[.string d.nm,.slice d.da.A d.da.l.length d.da.c,.slice d.wi.A d.wi.l.length d.wi.c,.string d.pl,.string d.se,.string d.ha,.slice d.ci.A d.ci.l.length d.ci.c] 81)):=(Up.alloc _ _).allocs _
 clear hX0;go_enter Tryz.func142,Tryz.ntmps142
 go_wp2_with fail
 generalize (w.alloc (.cells #[.slice x.rs.A x.rs.l.length x.rs.c,.int .i64 x.fr,.int .i64 x.to_,.slice x.ps.A x.ps.l.length x.ps.c,.slice x.ts.A x.ts.l.length x.ts.c,.slice x.pl.A x.pl.l.length x.pl.c,.slice x.ws.A x.ws.l.length x.ws.c,.slice x.st.A x.st.l.length x.st.c,.slice x.se.A x.se.l.length x.se.c,.slice x.ha.A x.ha.l.length x.ha.c] 59)).alloc (.cells #[.string d.nm,.slice d.da.A d.da.l.length d.da.c,.slice d.wi.A d.wi.l.length d.wi.c,.string d.pl,.string d.se,.string d.ha,.slice d.ci.A d.ci.l.length d.ci.c] 81)=w0 at *
 have HX:=qh hX
 have HY:=qh hY
 clear hX hY;obtain⟨x0,x1,x2,x3,x4,x5,x6,x7,x8,x9⟩:=HX.out.c10
 obtain⟨y0,y1,y2,y3,y4,y5,y6⟩:=HY.out.c7
 rcases b1 with _|_
 ·go_wp2_with first|(go_at_call 182;refine(K1.out _).mono ?_;rintro e wn ⟨rfl,rfl⟩)|(go_at_call 183;refine(K2.out _ u).mono ?_;rintro e wn ⟨rfl,v⟩;replace u:=u.trans v;replace HX:=qh (HX.out.up v);replace HY:=qh (HY.out.up v);clear v;obtain⟨x0,x1,x2,x3,x4,x5,x6,x7,x8,x9⟩:=HX.out.c10;obtain⟨y0,y1,y2,y3,y4,y5,y6⟩:=HY.out.c7)|(go_at_call 184;refine(K3.out _ u).mono ?_;rintro e wn ⟨z3,rfl,hz3,v⟩;replace u:=u.trans v;replace HX:=qh (HX.out.up v);replace HY:=qh (HY.out.up v);clear v;simp at hz3;obtain⟨x0,x1,x2,x3,x4,x5,x6,x7,x8,x9⟩:=HX.out.c10;obtain⟨y0,y1,y2,y3,y4,y5,y6⟩:=HY.out.c7)|(go_at_call 53;refine(K5.out _ u).mono ?_;rintro e wn ⟨rfl,v⟩;replace u:=u.trans v;replace HX:=qh (HX.out.up v);replace HY:=qh (HY.out.up v);clear v;obtain⟨x0,x1,x2,x3,x4,x5,x6,x7,x8,x9⟩:=HX.out.c10;obtain⟨y0,y1,y2,y3,y4,y5,y6⟩:=HY.out.c7)|(go_at_call 54;(first|(with_reducible refine(K6.out _ u).mono ?_)|(with_reducible refine(K7.out _ u).mono ?_));rintro e wn ⟨A6,c6,m6,rfl,hm6,v⟩;replace u:=u.trans v;replace HX:=qh (HX.out.up v);replace HY:=qh (HY.out.up v);clear v;have hmz:=m6z m6;rw[hm6]at hmz;simp only[Bool.not_true,Bool.not_false]at hmz;obtain⟨x0,x1,x2,x3,x4,x5,x6,x7,x8,x9⟩:=HX.out.c10;obtain⟨y0,y1,y2,y3,y4,y5,y6⟩:=HY.out.c7)
  all_goals (go_ret;exact⟨ret_bool (by rw[HE.out];rfl),u⟩)
 rcases b2 with _|_
 ·go_wp2_with first|(go_at_call 182;refine(K1.out _).mono ?_;rintro e wn ⟨rfl,rfl⟩)|(go_at_call 183;refine(K2.out _ u).mono ?_;rintro e wn ⟨rfl,v⟩;replace u:=u.trans v;replace HX:=qh (HX.out.up v);replace HY:=qh (HY.out.up v);clear v;obtain⟨x0,x1,x2,x3,x4,x5,x6,x7,x8,x9⟩:=HX.out.c10;obtain⟨y0,y1,y2,y3,y4,y5,y6⟩:=HY.out.c7)|(go_at_call 184;refine(K3.out _ u).mono ?_;rintro e wn ⟨z3,rfl,hz3,v⟩;replace u:=u.trans v;replace HX:=qh (HX.out.up v);replace HY:=qh (HY.out.up v);clear v;simp at hz3;obtain⟨x0,x1,x2,x3,x4,x5,x6,x7,x8,x9⟩:=HX.out.c10;obtain⟨y0,y1,y2,y3,y4,y5,y6⟩:=HY.out.c7)|(go_at_call 53;refine(K5.out _ u).mono ?_;rintro e wn ⟨rfl,v⟩;replace u:=u.trans v;replace HX:=qh (HX.out.up v);replace HY:=qh (HY.out.up v);clear v;obtain⟨x0,x1,x2,x3,x4,x5,x6,x7,x8,x9⟩:=HX.out.c10;obtain⟨y0,y1,y2,y3,y4,y5,y6⟩:=HY.out.c7)|(go_at_call 54;(first|(with_reducible refine(K6.out _ u).mono ?_)|(with_reducible refine(K7.out _ u).mono ?_));rintro e wn ⟨A6,c6,m6,rfl,hm6,v⟩;replace u:=u.trans v;replace HX:=qh (HX.out.up v);replace HY:=qh (HY.out.up v);clear v;have hmz:=m6z m6;rw[hm6]at hmz;simp only[Bool.not_true,Bool.not_false]at hmz;obtain⟨x0,x1,x2,x3,x4,x5,x6,x7,x8,x9⟩:=HX.out.c10;obtain⟨y0,y1,y2,y3,y4,y5,y6⟩:=HY.out.c7)
  all_goals (go_ret;exact⟨ret_bool (by rw[HE.out];rfl),u⟩)
 rcases b3 with _|_
 ·go_wp2_with first|(go_at_call 182;refine(K1.out _).mono ?_;rintro e wn ⟨rfl,rfl⟩)|(go_at_call 183;refine(K2.out _ u).mono ?_;rintro e wn ⟨rfl,v⟩;replace u:=u.trans v;replace HX:=qh (HX.out.up v);replace HY:=qh (HY.out.up v);clear v;obtain⟨x0,x1,x2,x3,x4,x5,x6,x7,x8,x9⟩:=HX.out.c10;obtain⟨y0,y1,y2,y3,y4,y5,y6⟩:=HY.out.c7)|(go_at_call 184;refine(K3.out _ u).mono ?_;rintro e wn ⟨z3,rfl,hz3,v⟩;replace u:=u.trans v;replace HX:=qh (HX.out.up v);replace HY:=qh (HY.out.up v);clear v;simp at hz3;obtain⟨x0,x1,x2,x3,x4,x5,x6,x7,x8,x9⟩:=HX.out.c10;obtain⟨y0,y1,y2,y3,y4,y5,y6⟩:=HY.out.c7)|(go_at_call 53;refine(K5.out _ u).mono ?_;rintro e wn ⟨rfl,v⟩;replace u:=u.trans v;replace HX:=qh (HX.out.up v);replace HY:=qh (HY.out.up v);clear v;obtain⟨x0,x1,x2,x3,x4,x5,x6,x7,x8,x9⟩:=HX.out.c10;obtain⟨y0,y1,y2,y3,y4,y5,y6⟩:=HY.out.c7)|(go_at_call 54;(first|(with_reducible refine(K6.out _ u).mono ?_)|(with_reducible refine(K7.out _ u).mono ?_));rintro e wn ⟨A6,c6,m6,rfl,hm6,v⟩;replace u:=u.trans v;replace HX:=qh (HX.out.up v);replace HY:=qh (HY.out.up v);clear v;have hmz:=m6z m6;rw[hm6]at hmz;simp only[Bool.not_true,Bool.not_false]at hmz;obtain⟨x0,x1,x2,x3,x4,x5,x6,x7,x8,x9⟩:=HX.out.c10;obtain⟨y0,y1,y2,y3,y4,y5,y6⟩:=HY.out.c7)
  all_goals (go_ret;exact⟨ret_bool (by rw[HE.out];rfl),u⟩)
 by_cases h8:d.ci.l.length≤8
 rotate_left
 ·have h8':8<d.ci.l.length:=by omega
  go_wp2_with first|(go_at_call 182;refine(K1.out _).mono ?_;rintro e wn ⟨rfl,rfl⟩)|(go_at_call 183;refine(K2.out _ u).mono ?_;rintro e wn ⟨rfl,v⟩;replace u:=u.trans v;replace HX:=qh (HX.out.up v);replace HY:=qh (HY.out.up v);clear v;obtain⟨x0,x1,x2,x3,x4,x5,x6,x7,x8,x9⟩:=HX.out.c10;obtain⟨y0,y1,y2,y3,y4,y5,y6⟩:=HY.out.c7)|(go_at_call 184;refine(K3.out _ u).mono ?_;rintro e wn ⟨z3,rfl,hz3,v⟩;replace u:=u.trans v;replace HX:=qh (HX.out.up v);replace HY:=qh (HY.out.up v);clear v;simp at hz3;obtain⟨x0,x1,x2,x3,x4,x5,x6,x7,x8,x9⟩:=HX.out.c10;obtain⟨y0,y1,y2,y3,y4,y5,y6⟩:=HY.out.c7)|(go_at_call 53;refine(K5.out _ u).mono ?_;rintro e wn ⟨rfl,v⟩;replace u:=u.trans v;replace HX:=qh (HX.out.up v);replace HY:=qh (HY.out.up v);clear v;obtain⟨x0,x1,x2,x3,x4,x5,x6,x7,x8,x9⟩:=HX.out.c10;obtain⟨y0,y1,y2,y3,y4,y5,y6⟩:=HY.out.c7)|(go_at_call 54;(first|(with_reducible refine(K6.out _ u).mono ?_)|(with_reducible refine(K7.out _ u).mono ?_));rintro e wn ⟨A6,c6,m6,rfl,hm6,v⟩;replace u:=u.trans v;replace HX:=qh (HX.out.up v);replace HY:=qh (HY.out.up v);clear v;have hmz:=m6z m6;rw[hm6]at hmz;simp only[Bool.not_true,Bool.not_false]at hmz;obtain⟨x0,x1,x2,x3,x4,x5,x6,x7,x8,x9⟩:=HX.out.c10;obtain⟨y0,y1,y2,y3,y4,y5,y6⟩:=HY.out.c7)
  all_goals (go_ret;exact⟨ret_bool (by rw[HE.out];simp[h8]),u⟩)
 obtain⟨pk,hpk⟩:∃z,z=((d.pl.toList==[]) || decide (0≤pz)):=⟨_,rfl⟩
 obtain⟨sk,hsk⟩:∃z,z=((d.se.toList==[]) || b6):=⟨_,rfl⟩
 obtain⟨hk,hhk⟩:∃z,z=((d.ha.toList==[]) || b7):=⟨_,rfl⟩
 have HE2:=qh (show d0B x.p (s.l.map Dd.p) d.p=(pk && (sk && (hk && allK d.ci.l (ctQ (s.l.map Dd.p) d.p)))) by rw[HE.out,hpk,hsk,hhk,decide_eq_true h8];rfl)
 have HPK:=qh hpk
 have HSK:=qh hsk
 have HHK:=qh hhk
 clear hpk hsk hhk HE;have h8':¬ 8<d.ci.l.length:=by omega
 go_upto_region 3 with first|(go_at_call 182;refine(K1.out _).mono ?_;rintro e wn ⟨rfl,rfl⟩)|(go_at_call 183;refine(K2.out _ u).mono ?_;rintro e wn ⟨rfl,v⟩;replace u:=u.trans v;replace HX:=qh (HX.out.up v);replace HY:=qh (HY.out.up v);clear v;obtain⟨x0,x1,x2,x3,x4,x5,x6,x7,x8,x9⟩:=HX.out.c10;obtain⟨y0,y1,y2,y3,y4,y5,y6⟩:=HY.out.c7)|(go_at_call 184;refine(K3.out _ u).mono ?_;rintro e wn ⟨z3,rfl,hz3,v⟩;replace u:=u.trans v;replace HX:=qh (HX.out.up v);replace HY:=qh (HY.out.up v);clear v;simp at hz3;obtain⟨x0,x1,x2,x3,x4,x5,x6,x7,x8,x9⟩:=HX.out.c10;obtain⟨y0,y1,y2,y3,y4,y5,y6⟩:=HY.out.c7)|(go_at_call 53;refine(K5.out _ u).mono ?_;rintro e wn ⟨rfl,v⟩;replace u:=u.trans v;replace HX:=qh (HX.out.up v);replace HY:=qh (HY.out.up v);clear v;obtain⟨x0,x1,x2,x3,x4,x5,x6,x7,x8,x9⟩:=HX.out.c10;obtain⟨y0,y1,y2,y3,y4,y5,y6⟩:=HY.out.c7)|(go_at_call 54;(first|(with_reducible refine(K6.out _ u).mono ?_)|(with_reducible refine(K7.out _ u).mono ?_));rintro e wn ⟨A6,c6,m6,rfl,hm6,v⟩;replace u:=u.trans v;replace HX:=qh (HX.out.up v);replace HY:=qh (HY.out.up v);clear v;have hmz:=m6z m6;rw[hm6]at hmz;simp only[Bool.not_true,Bool.not_false]at hmz;obtain⟨x0,x1,x2,x3,x4,x5,x6,x7,x8,x9⟩:=HX.out.c10;obtain⟨y0,y1,y2,y3,y4,y5,y6⟩:=HY.out.c7)
 have u0:=u
 go_cut [71] (fun bz wx=>∃(Z:World) (bo:Bool),Z=wx∧bz=.bool bo∧bo=!(pk && (sk && hk))∧Up w Z∧Bx Z w.heap.size [.slice x.rs.A x.rs.l.length x.rs.c,.int .i64 x.fr,.int .i64 x.to_,.slice x.ps.A x.ps.l.length x.ps.c,.slice x.ts.A x.ts.l.length x.ts.c,.slice x.pl.A x.pl.l.length x.pl.c,.slice x.ws.A x.ws.l.length x.ws.c,.slice x.st.A x.st.l.length x.st.c,.slice x.se.A x.se.l.length x.se.c,.slice x.ha.A x.ha.l.length x.ha.c]∧Bx Z (w.heap.size+1) [.string d.nm,.slice d.da.A d.da.l.length d.da.c,.slice d.wi.A d.wi.l.length d.wi.c,.string d.pl,.string d.se,.string d.ha,.slice d.ci.A d.ci.l.length d.ci.c])
 case first =>
  by_cases h1:d.pl.toList=[]
  ·have h1e:d.pl.toList.isEmpty=true:=by simp[h1]
   have PK:pk=true:=by rw[HPK.out,h1];rfl
   by_cases h2:d.se.toList=[]
   ·have h2e:d.se.toList.isEmpty=true:=by simp[h2]
    have SK:sk=true:=by rw[HSK.out,h2];rfl
    by_cases h3:d.ha.toList=[]
    ·have h3e:d.ha.toList.isEmpty=true:=by simp[h3]
     have HV:=qh (show false=!(pk && (sk && hk)) by rw[PK,SK,HHK.out,h3];rfl)
     go_wp2_with first|(go_at_call 182;refine(K1.out _).mono ?_;rintro e wn ⟨rfl,rfl⟩)|(go_at_call 183;refine(K2.out _ u).mono ?_;rintro e wn ⟨rfl,v⟩;replace u:=u.trans v;replace HX:=qh (HX.out.up v);replace HY:=qh (HY.out.up v);clear v;obtain⟨x0,x1,x2,x3,x4,x5,x6,x7,x8,x9⟩:=HX.out.c10;obtain⟨y0,y1,y2,y3,y4,y5,y6⟩:=HY.out.c7)|(go_at_call 184;refine(K3.out _ u).mono ?_;rintro e wn ⟨z3,rfl,hz3,v⟩;replace u:=u.trans v;replace HX:=qh (HX.out.up v);replace HY:=qh (HY.out.up v);clear v;simp at hz3;obtain⟨x0,x1,x2,x3,x4,x5,x6,x7,x8,x9⟩:=HX.out.c10;obtain⟨y0,y1,y2,y3,y4,y5,y6⟩:=HY.out.c7)|(go_at_call 53;refine(K5.out _ u).mono ?_;rintro e wn ⟨rfl,v⟩;replace u:=u.trans v;replace HX:=qh (HX.out.up v);replace HY:=qh (HY.out.up v);clear v;obtain⟨x0,x1,x2,x3,x4,x5,x6,x7,x8,x9⟩:=HX.out.c10;obtain⟨y0,y1,y2,y3,y4,y5,y6⟩:=HY.out.c7)|(go_at_call 54;(first|(with_reducible refine(K6.out _ u).mono ?_)|(with_reducible refine(K7.out _ u).mono ?_));rintro e wn ⟨A6,c6,m6,rfl,hm6,v⟩;replace u:=u.trans v;replace HX:=qh (HX.out.up v);replace HY:=qh (HY.out.up v);clear v;have hmz:=m6z m6;rw[hm6]at hmz;simp only[Bool.not_true,Bool.not_false]at hmz;obtain⟨x0,x1,x2,x3,x4,x5,x6,x7,x8,x9⟩:=HX.out.c10;obtain⟨y0,y1,y2,y3,y4,y5,y6⟩:=HY.out.c7)
     go_meet
     exact⟨_,_,rfl,rfl,by first|exact HV.out|(rw[← HV.out];simp_all;done)|(rw[← HV.out];simp_all;omega),u,HX.out,HY.out⟩
    have h3e:d.ha.toList.isEmpty=false:=by simp[h3]
    rcases b7 with _|_
    ·have HV:=qh (show true=!(pk && (sk && hk)) by rw[PK,SK,HHK.out];simp[h3])
     go_wp2_with first|(go_at_call 182;refine(K1.out _).mono ?_;rintro e wn ⟨rfl,rfl⟩)|(go_at_call 183;refine(K2.out _ u).mono ?_;rintro e wn ⟨rfl,v⟩;replace u:=u.trans v;replace HX:=qh (HX.out.up v);replace HY:=qh (HY.out.up v);clear v;obtain⟨x0,x1,x2,x3,x4,x5,x6,x7,x8,x9⟩:=HX.out.c10;obtain⟨y0,y1,y2,y3,y4,y5,y6⟩:=HY.out.c7)|(go_at_call 184;refine(K3.out _ u).mono ?_;rintro e wn ⟨z3,rfl,hz3,v⟩;replace u:=u.trans v;replace HX:=qh (HX.out.up v);replace HY:=qh (HY.out.up v);clear v;simp at hz3;obtain⟨x0,x1,x2,x3,x4,x5,x6,x7,x8,x9⟩:=HX.out.c10;obtain⟨y0,y1,y2,y3,y4,y5,y6⟩:=HY.out.c7)|(go_at_call 53;refine(K5.out _ u).mono ?_;rintro e wn ⟨rfl,v⟩;replace u:=u.trans v;replace HX:=qh (HX.out.up v);replace HY:=qh (HY.out.up v);clear v;obtain⟨x0,x1,x2,x3,x4,x5,x6,x7,x8,x9⟩:=HX.out.c10;obtain⟨y0,y1,y2,y3,y4,y5,y6⟩:=HY.out.c7)|(go_at_call 54;(first|(with_reducible refine(K6.out _ u).mono ?_)|(with_reducible refine(K7.out _ u).mono ?_));rintro e wn ⟨A6,c6,m6,rfl,hm6,v⟩;replace u:=u.trans v;replace HX:=qh (HX.out.up v);replace HY:=qh (HY.out.up v);clear v;have hmz:=m6z m6;rw[hm6]at hmz;simp only[Bool.not_false]at hmz;obtain⟨x0,x1,x2,x3,x4,x5,x6,x7,x8,x9⟩:=HX.out.c10;obtain⟨y0,y1,y2,y3,y4,y5,y6⟩:=HY.out.c7)
     go_meet
     exact⟨_,_,rfl,rfl,by first|exact HV.out|(rw[← HV.out];simp_all;done)|(rw[← HV.out];simp_all;omega),u,HX.out,HY.out⟩
    have HV:=qh (show false=!(pk && (sk && hk)) by rw[PK,SK,HHK.out];simp)
    go_wp2_with first|(go_at_call 182;refine(K1.out _).mono ?_;rintro e wn ⟨rfl,rfl⟩)|(go_at_call 183;refine(K2.out _ u).mono ?_;rintro e wn ⟨rfl,v⟩;replace u:=u.trans v;replace HX:=qh (HX.out.up v);replace HY:=qh (HY.out.up v);clear v;obtain⟨x0,x1,x2,x3,x4,x5,x6,x7,x8,x9⟩:=HX.out.c10;obtain⟨y0,y1,y2,y3,y4,y5,y6⟩:=HY.out.c7)|(go_at_call 184;refine(K3.out _ u).mono ?_;rintro e wn ⟨z3,rfl,hz3,v⟩;replace u:=u.trans v;replace HX:=qh (HX.out.up v);replace HY:=qh (HY.out.up v);clear v;simp at hz3;obtain⟨x0,x1,x2,x3,x4,x5,x6,x7,x8,x9⟩:=HX.out.c10;obtain⟨y0,y1,y2,y3,y4,y5,y6⟩:=HY.out.c7)|(go_at_call 53;refine(K5.out _ u).mono ?_;rintro e wn ⟨rfl,v⟩;replace u:=u.trans v;replace HX:=qh (HX.out.up v);replace HY:=qh (HY.out.up v);clear v;obtain⟨x0,x1,x2,x3,x4,x5,x6,x7,x8,x9⟩:=HX.out.c10;obtain⟨y0,y1,y2,y3,y4,y5,y6⟩:=HY.out.c7)|(go_at_call 54;(first|(with_reducible refine(K6.out _ u).mono ?_)|(with_reducible refine(K7.out _ u).mono ?_));rintro e wn ⟨A6,c6,m6,rfl,hm6,v⟩;replace u:=u.trans v;replace HX:=qh (HX.out.up v);replace HY:=qh (HY.out.up v);clear v;have hmz:=m6z m6;rw[hm6]at hmz;simp only[Bool.not_true]at hmz;obtain⟨x0,x1,x2,x3,x4,x5,x6,x7,x8,x9⟩:=HX.out.c10;obtain⟨y0,y1,y2,y3,y4,y5,y6⟩:=HY.out.c7)
    go_meet
    exact⟨_,_,rfl,rfl,by first|exact HV.out|(rw[← HV.out];simp_all;done)|(rw[← HV.out];simp_all;omega),u,HX.out,HY.out⟩
   have h2e:d.se.toList.isEmpty=false:=by simp[h2]
   rcases b6 with _|_
   ·have HV:=qh (show true=!(pk && (sk && hk)) by rw[PK,HSK.out];simp[h2])
    go_wp2_with first|(go_at_call 182;refine(K1.out _).mono ?_;rintro e wn ⟨rfl,rfl⟩)|(go_at_call 183;refine(K2.out _ u).mono ?_;rintro e wn ⟨rfl,v⟩;replace u:=u.trans v;replace HX:=qh (HX.out.up v);replace HY:=qh (HY.out.up v);clear v;obtain⟨x0,x1,x2,x3,x4,x5,x6,x7,x8,x9⟩:=HX.out.c10;obtain⟨y0,y1,y2,y3,y4,y5,y6⟩:=HY.out.c7)|(go_at_call 184;refine(K3.out _ u).mono ?_;rintro e wn ⟨z3,rfl,hz3,v⟩;replace u:=u.trans v;replace HX:=qh (HX.out.up v);replace HY:=qh (HY.out.up v);clear v;simp at hz3;obtain⟨x0,x1,x2,x3,x4,x5,x6,x7,x8,x9⟩:=HX.out.c10;obtain⟨y0,y1,y2,y3,y4,y5,y6⟩:=HY.out.c7)|(go_at_call 53;refine(K5.out _ u).mono ?_;rintro e wn ⟨rfl,v⟩;replace u:=u.trans v;replace HX:=qh (HX.out.up v);replace HY:=qh (HY.out.up v);clear v;obtain⟨x0,x1,x2,x3,x4,x5,x6,x7,x8,x9⟩:=HX.out.c10;obtain⟨y0,y1,y2,y3,y4,y5,y6⟩:=HY.out.c7)|(go_at_call 54;(first|(with_reducible refine(K6.out _ u).mono ?_)|(with_reducible refine(K7.out _ u).mono ?_));rintro e wn ⟨A6,c6,m6,rfl,hm6,v⟩;replace u:=u.trans v;replace HX:=qh (HX.out.up v);replace HY:=qh (HY.out.up v);clear v;have hmz:=m6z m6;rw[hm6]at hmz;simp only[Bool.not_false]at hmz;obtain⟨x0,x1,x2,x3,x4,x5,x6,x7,x8,x9⟩:=HX.out.c10;obtain⟨y0,y1,y2,y3,y4,y5,y6⟩:=HY.out.c7)
    go_meet
    exact⟨_,_,rfl,rfl,by first|exact HV.out|(rw[← HV.out];simp_all;done)|(rw[← HV.out];simp_all;omega),u,HX.out,HY.out⟩
   have SK:sk=true:=by rw[HSK.out];simp
   by_cases h3:d.ha.toList=[]
   ·have h3e:d.ha.toList.isEmpty=true:=by simp[h3]
    have HV:=qh (show false=!(pk && (sk && hk)) by rw[PK,SK,HHK.out,h3];rfl)
    go_wp2_with first|(go_at_call 182;refine(K1.out _).mono ?_;rintro e wn ⟨rfl,rfl⟩)|(go_at_call 183;refine(K2.out _ u).mono ?_;rintro e wn ⟨rfl,v⟩;replace u:=u.trans v;replace HX:=qh (HX.out.up v);replace HY:=qh (HY.out.up v);clear v;obtain⟨x0,x1,x2,x3,x4,x5,x6,x7,x8,x9⟩:=HX.out.c10;obtain⟨y0,y1,y2,y3,y4,y5,y6⟩:=HY.out.c7)|(go_at_call 184;refine(K3.out _ u).mono ?_;rintro e wn ⟨z3,rfl,hz3,v⟩;replace u:=u.trans v;replace HX:=qh (HX.out.up v);replace HY:=qh (HY.out.up v);clear v;simp at hz3;obtain⟨x0,x1,x2,x3,x4,x5,x6,x7,x8,x9⟩:=HX.out.c10;obtain⟨y0,y1,y2,y3,y4,y5,y6⟩:=HY.out.c7)|(go_at_call 53;refine(K5.out _ u).mono ?_;rintro e wn ⟨rfl,v⟩;replace u:=u.trans v;replace HX:=qh (HX.out.up v);replace HY:=qh (HY.out.up v);clear v;obtain⟨x0,x1,x2,x3,x4,x5,x6,x7,x8,x9⟩:=HX.out.c10;obtain⟨y0,y1,y2,y3,y4,y5,y6⟩:=HY.out.c7)|(go_at_call 54;(first|(with_reducible refine(K6.out _ u).mono ?_)|(with_reducible refine(K7.out _ u).mono ?_));rintro e wn ⟨A6,c6,m6,rfl,hm6,v⟩;replace u:=u.trans v;replace HX:=qh (HX.out.up v);replace HY:=qh (HY.out.up v);clear v;have hmz:=m6z m6;rw[hm6]at hmz;simp only[Bool.not_true]at hmz;obtain⟨x0,x1,x2,x3,x4,x5,x6,x7,x8,x9⟩:=HX.out.c10;obtain⟨y0,y1,y2,y3,y4,y5,y6⟩:=HY.out.c7)
    go_meet
    exact⟨_,_,rfl,rfl,by first|exact HV.out|(rw[← HV.out];simp_all;done)|(rw[← HV.out];simp_all;omega),u,HX.out,HY.out⟩
   have h3e:d.ha.toList.isEmpty=false:=by simp[h3]
   rcases b7 with _|_
   ·have HV:=qh (show true=!(pk && (sk && hk)) by rw[PK,SK,HHK.out];simp[h3])
    go_wp2_with first|(go_at_call 182;refine(K1.out _).mono ?_;rintro e wn ⟨rfl,rfl⟩)|(go_at_call 183;refine(K2.out _ u).mono ?_;rintro e wn ⟨rfl,v⟩;replace u:=u.trans v;replace HX:=qh (HX.out.up v);replace HY:=qh (HY.out.up v);clear v;obtain⟨x0,x1,x2,x3,x4,x5,x6,x7,x8,x9⟩:=HX.out.c10;obtain⟨y0,y1,y2,y3,y4,y5,y6⟩:=HY.out.c7)|(go_at_call 184;refine(K3.out _ u).mono ?_;rintro e wn ⟨z3,rfl,hz3,v⟩;replace u:=u.trans v;replace HX:=qh (HX.out.up v);replace HY:=qh (HY.out.up v);clear v;simp at hz3;obtain⟨x0,x1,x2,x3,x4,x5,x6,x7,x8,x9⟩:=HX.out.c10;obtain⟨y0,y1,y2,y3,y4,y5,y6⟩:=HY.out.c7)|(go_at_call 53;refine(K5.out _ u).mono ?_;rintro e wn ⟨rfl,v⟩;replace u:=u.trans v;replace HX:=qh (HX.out.up v);replace HY:=qh (HY.out.up v);clear v;obtain⟨x0,x1,x2,x3,x4,x5,x6,x7,x8,x9⟩:=HX.out.c10;obtain⟨y0,y1,y2,y3,y4,y5,y6⟩:=HY.out.c7)|(go_at_call 54;(first|(with_reducible refine(K6.out _ u).mono ?_)|(with_reducible refine(K7.out _ u).mono ?_));rintro e wn ⟨A6,c6,m6,rfl,hm6,v⟩;replace u:=u.trans v;replace HX:=qh (HX.out.up v);replace HY:=qh (HY.out.up v);clear v;have hmz:=m6z m6;rw[hm6]at hmz;simp only[Bool.not_true,Bool.not_false]at hmz;obtain⟨x0,x1,x2,x3,x4,x5,x6,x7,x8,x9⟩:=HX.out.c10;obtain⟨y0,y1,y2,y3,y4,y5,y6⟩:=HY.out.c7)
    go_meet
    exact⟨_,_,rfl,rfl,by first|exact HV.out|(rw[← HV.out];simp_all;done)|(rw[← HV.out];simp_all;omega),u,HX.out,HY.out⟩
   have HV:=qh (show false=!(pk && (sk && hk)) by rw[PK,SK,HHK.out];simp)
   go_wp2_with first|(go_at_call 182;refine(K1.out _).mono ?_;rintro e wn ⟨rfl,rfl⟩)|(go_at_call 183;refine(K2.out _ u).mono ?_;rintro e wn ⟨rfl,v⟩;replace u:=u.trans v;replace HX:=qh (HX.out.up v);replace HY:=qh (HY.out.up v);clear v;obtain⟨x0,x1,x2,x3,x4,x5,x6,x7,x8,x9⟩:=HX.out.c10;obtain⟨y0,y1,y2,y3,y4,y5,y6⟩:=HY.out.c7)|(go_at_call 184;refine(K3.out _ u).mono ?_;rintro e wn ⟨z3,rfl,hz3,v⟩;replace u:=u.trans v;replace HX:=qh (HX.out.up v);replace HY:=qh (HY.out.up v);clear v;simp at hz3;obtain⟨x0,x1,x2,x3,x4,x5,x6,x7,x8,x9⟩:=HX.out.c10;obtain⟨y0,y1,y2,y3,y4,y5,y6⟩:=HY.out.c7)|(go_at_call 53;refine(K5.out _ u).mono ?_;rintro e wn ⟨rfl,v⟩;replace u:=u.trans v;replace HX:=qh (HX.out.up v);replace HY:=qh (HY.out.up v);clear v;obtain⟨x0,x1,x2,x3,x4,x5,x6,x7,x8,x9⟩:=HX.out.c10;obtain⟨y0,y1,y2,y3,y4,y5,y6⟩:=HY.out.c7)|(go_at_call 54;(first|(with_reducible refine(K6.out _ u).mono ?_)|(with_reducible refine(K7.out _ u).mono ?_));rintro e wn ⟨A6,c6,m6,rfl,hm6,v⟩;replace u:=u.trans v;replace HX:=qh (HX.out.up v);replace HY:=qh (HY.out.up v);clear v;have hmz:=m6z m6;rw[hm6]at hmz;simp only[Bool.not_true]at hmz;obtain⟨x0,x1,x2,x3,x4,x5,x6,x7,x8,x9⟩:=HX.out.c10;obtain⟨y0,y1,y2,y3,y4,y5,y6⟩:=HY.out.c7)
   go_meet
   exact⟨_,_,rfl,rfl,by first|exact HV.out|(rw[← HV.out];simp_all;done)|(rw[← HV.out];simp_all;omega),u,HX.out,HY.out⟩
  have h1e:d.pl.toList.isEmpty=false:=by simp[h1]
  by_cases h0:pz<0
  ·have h0d:decide (pz<0)=true:=by simp[h0]
   have HV:=qh (show true=!(pk && (sk && hk)) by rw[HPK.out];simp[h1];omega)
   go_wp2_with first|(go_at_call 182;refine(K1.out _).mono ?_;rintro e wn ⟨rfl,rfl⟩)|(go_at_call 183;refine(K2.out _ u).mono ?_;rintro e wn ⟨rfl,v⟩;replace u:=u.trans v;replace HX:=qh (HX.out.up v);replace HY:=qh (HY.out.up v);clear v;obtain⟨x0,x1,x2,x3,x4,x5,x6,x7,x8,x9⟩:=HX.out.c10;obtain⟨y0,y1,y2,y3,y4,y5,y6⟩:=HY.out.c7)|(go_at_call 184;refine(K3.out _ u).mono ?_;rintro e wn ⟨z3,rfl,hz3,v⟩;replace u:=u.trans v;replace HX:=qh (HX.out.up v);replace HY:=qh (HY.out.up v);clear v;simp at hz3;obtain⟨x0,x1,x2,x3,x4,x5,x6,x7,x8,x9⟩:=HX.out.c10;obtain⟨y0,y1,y2,y3,y4,y5,y6⟩:=HY.out.c7)|(go_at_call 53;refine(K5.out _ u).mono ?_;rintro e wn ⟨rfl,v⟩;replace u:=u.trans v;replace HX:=qh (HX.out.up v);replace HY:=qh (HY.out.up v);clear v;obtain⟨x0,x1,x2,x3,x4,x5,x6,x7,x8,x9⟩:=HX.out.c10;obtain⟨y0,y1,y2,y3,y4,y5,y6⟩:=HY.out.c7)|(go_at_call 54;(first|(with_reducible refine(K6.out _ u).mono ?_)|(with_reducible refine(K7.out _ u).mono ?_));rintro e wn ⟨A6,c6,m6,rfl,hm6,v⟩;replace u:=u.trans v;replace HX:=qh (HX.out.up v);replace HY:=qh (HY.out.up v);clear v;have hmz:=m6z m6;rw[hm6]at hmz;simp only[Bool.not_true,Bool.not_false]at hmz;obtain⟨x0,x1,x2,x3,x4,x5,x6,x7,x8,x9⟩:=HX.out.c10;obtain⟨y0,y1,y2,y3,y4,y5,y6⟩:=HY.out.c7)
   go_meet
   exact⟨_,_,rfl,rfl,by first|exact HV.out|(rw[← HV.out];simp_all;done)|(rw[← HV.out];simp_all;omega),u,HX.out,HY.out⟩
  have h0d:decide (pz<0)=false:=by simp;omega
  have PK:pk=true:=by rw[HPK.out];simp[h1];omega
  by_cases h2:d.se.toList=[]
  ·have h2e:d.se.toList.isEmpty=true:=by simp[h2]
   have SK:sk=true:=by rw[HSK.out,h2];rfl
   by_cases h3:d.ha.toList=[]
   ·have h3e:d.ha.toList.isEmpty=true:=by simp[h3]
    have HV:=qh (show false=!(pk && (sk && hk)) by rw[PK,SK,HHK.out,h3];rfl)
    go_wp2_with first|(go_at_call 182;refine(K1.out _).mono ?_;rintro e wn ⟨rfl,rfl⟩)|(go_at_call 183;refine(K2.out _ u).mono ?_;rintro e wn ⟨rfl,v⟩;replace u:=u.trans v;replace HX:=qh (HX.out.up v);replace HY:=qh (HY.out.up v);clear v;obtain⟨x0,x1,x2,x3,x4,x5,x6,x7,x8,x9⟩:=HX.out.c10;obtain⟨y0,y1,y2,y3,y4,y5,y6⟩:=HY.out.c7)|(go_at_call 184;refine(K3.out _ u).mono ?_;rintro e wn ⟨z3,rfl,hz3,v⟩;replace u:=u.trans v;replace HX:=qh (HX.out.up v);replace HY:=qh (HY.out.up v);clear v;simp at hz3;obtain⟨x0,x1,x2,x3,x4,x5,x6,x7,x8,x9⟩:=HX.out.c10;obtain⟨y0,y1,y2,y3,y4,y5,y6⟩:=HY.out.c7)|(go_at_call 53;refine(K5.out _ u).mono ?_;rintro e wn ⟨rfl,v⟩;replace u:=u.trans v;replace HX:=qh (HX.out.up v);replace HY:=qh (HY.out.up v);clear v;obtain⟨x0,x1,x2,x3,x4,x5,x6,x7,x8,x9⟩:=HX.out.c10;obtain⟨y0,y1,y2,y3,y4,y5,y6⟩:=HY.out.c7)|(go_at_call 54;(first|(with_reducible refine(K6.out _ u).mono ?_)|(with_reducible refine(K7.out _ u).mono ?_));rintro e wn ⟨A6,c6,m6,rfl,hm6,v⟩;replace u:=u.trans v;replace HX:=qh (HX.out.up v);replace HY:=qh (HY.out.up v);clear v;have hmz:=m6z m6;rw[hm6]at hmz;simp only[Bool.not_true,Bool.not_false]at hmz;obtain⟨x0,x1,x2,x3,x4,x5,x6,x7,x8,x9⟩:=HX.out.c10;obtain⟨y0,y1,y2,y3,y4,y5,y6⟩:=HY.out.c7)
    go_meet
    exact⟨_,_,rfl,rfl,by first|exact HV.out|(rw[← HV.out];simp_all;done)|(rw[← HV.out];simp_all;omega),u,HX.out,HY.out⟩
   have h3e:d.ha.toList.isEmpty=false:=by simp[h3]
   rcases b7 with _|_
   ·have HV:=qh (show true=!(pk && (sk && hk)) by rw[PK,SK,HHK.out];simp[h3])
    go_wp2_with first|(go_at_call 182;refine(K1.out _).mono ?_;rintro e wn ⟨rfl,rfl⟩)|(go_at_call 183;refine(K2.out _ u).mono ?_;rintro e wn ⟨rfl,v⟩;replace u:=u.trans v;replace HX:=qh (HX.out.up v);replace HY:=qh (HY.out.up v);clear v;obtain⟨x0,x1,x2,x3,x4,x5,x6,x7,x8,x9⟩:=HX.out.c10;obtain⟨y0,y1,y2,y3,y4,y5,y6⟩:=HY.out.c7)|(go_at_call 184;refine(K3.out _ u).mono ?_;rintro e wn ⟨z3,rfl,hz3,v⟩;replace u:=u.trans v;replace HX:=qh (HX.out.up v);replace HY:=qh (HY.out.up v);clear v;simp at hz3;obtain⟨x0,x1,x2,x3,x4,x5,x6,x7,x8,x9⟩:=HX.out.c10;obtain⟨y0,y1,y2,y3,y4,y5,y6⟩:=HY.out.c7)|(go_at_call 53;refine(K5.out _ u).mono ?_;rintro e wn ⟨rfl,v⟩;replace u:=u.trans v;replace HX:=qh (HX.out.up v);replace HY:=qh (HY.out.up v);clear v;obtain⟨x0,x1,x2,x3,x4,x5,x6,x7,x8,x9⟩:=HX.out.c10;obtain⟨y0,y1,y2,y3,y4,y5,y6⟩:=HY.out.c7)|(go_at_call 54;(first|(with_reducible refine(K6.out _ u).mono ?_)|(with_reducible refine(K7.out _ u).mono ?_));rintro e wn ⟨A6,c6,m6,rfl,hm6,v⟩;replace u:=u.trans v;replace HX:=qh (HX.out.up v);replace HY:=qh (HY.out.up v);clear v;have hmz:=m6z m6;rw[hm6]at hmz;simp only[Bool.not_false]at hmz;obtain⟨x0,x1,x2,x3,x4,x5,x6,x7,x8,x9⟩:=HX.out.c10;obtain⟨y0,y1,y2,y3,y4,y5,y6⟩:=HY.out.c7)
    go_meet
    exact⟨_,_,rfl,rfl,by first|exact HV.out|(rw[← HV.out];simp_all;done)|(rw[← HV.out];simp_all;omega),u,HX.out,HY.out⟩
   have HV:=qh (show false=!(pk && (sk && hk)) by rw[PK,SK,HHK.out];simp)
   go_wp2_with first|(go_at_call 182;refine(K1.out _).mono ?_;rintro e wn ⟨rfl,rfl⟩)|(go_at_call 183;refine(K2.out _ u).mono ?_;rintro e wn ⟨rfl,v⟩;replace u:=u.trans v;replace HX:=qh (HX.out.up v);replace HY:=qh (HY.out.up v);clear v;obtain⟨x0,x1,x2,x3,x4,x5,x6,x7,x8,x9⟩:=HX.out.c10;obtain⟨y0,y1,y2,y3,y4,y5,y6⟩:=HY.out.c7)|(go_at_call 184;refine(K3.out _ u).mono ?_;rintro e wn ⟨z3,rfl,hz3,v⟩;replace u:=u.trans v;replace HX:=qh (HX.out.up v);replace HY:=qh (HY.out.up v);clear v;simp at hz3;obtain⟨x0,x1,x2,x3,x4,x5,x6,x7,x8,x9⟩:=HX.out.c10;obtain⟨y0,y1,y2,y3,y4,y5,y6⟩:=HY.out.c7)|(go_at_call 53;refine(K5.out _ u).mono ?_;rintro e wn ⟨rfl,v⟩;replace u:=u.trans v;replace HX:=qh (HX.out.up v);replace HY:=qh (HY.out.up v);clear v;obtain⟨x0,x1,x2,x3,x4,x5,x6,x7,x8,x9⟩:=HX.out.c10;obtain⟨y0,y1,y2,y3,y4,y5,y6⟩:=HY.out.c7)|(go_at_call 54;(first|(with_reducible refine(K6.out _ u).mono ?_)|(with_reducible refine(K7.out _ u).mono ?_));rintro e wn ⟨A6,c6,m6,rfl,hm6,v⟩;replace u:=u.trans v;replace HX:=qh (HX.out.up v);replace HY:=qh (HY.out.up v);clear v;have hmz:=m6z m6;rw[hm6]at hmz;simp only[Bool.not_true]at hmz;obtain⟨x0,x1,x2,x3,x4,x5,x6,x7,x8,x9⟩:=HX.out.c10;obtain⟨y0,y1,y2,y3,y4,y5,y6⟩:=HY.out.c7)
   go_meet
   exact⟨_,_,rfl,rfl,by first|exact HV.out|(rw[← HV.out];simp_all;done)|(rw[← HV.out];simp_all;omega),u,HX.out,HY.out⟩
  have h2e:d.se.toList.isEmpty=false:=by simp[h2]
  rcases b6 with _|_
  ·have HV:=qh (show true=!(pk && (sk && hk)) by rw[PK,HSK.out];simp[h2])
   go_wp2_with first|(go_at_call 182;refine(K1.out _).mono ?_;rintro e wn ⟨rfl,rfl⟩)|(go_at_call 183;refine(K2.out _ u).mono ?_;rintro e wn ⟨rfl,v⟩;replace u:=u.trans v;replace HX:=qh (HX.out.up v);replace HY:=qh (HY.out.up v);clear v;obtain⟨x0,x1,x2,x3,x4,x5,x6,x7,x8,x9⟩:=HX.out.c10;obtain⟨y0,y1,y2,y3,y4,y5,y6⟩:=HY.out.c7)|(go_at_call 184;refine(K3.out _ u).mono ?_;rintro e wn ⟨z3,rfl,hz3,v⟩;replace u:=u.trans v;replace HX:=qh (HX.out.up v);replace HY:=qh (HY.out.up v);clear v;simp at hz3;obtain⟨x0,x1,x2,x3,x4,x5,x6,x7,x8,x9⟩:=HX.out.c10;obtain⟨y0,y1,y2,y3,y4,y5,y6⟩:=HY.out.c7)|(go_at_call 53;refine(K5.out _ u).mono ?_;rintro e wn ⟨rfl,v⟩;replace u:=u.trans v;replace HX:=qh (HX.out.up v);replace HY:=qh (HY.out.up v);clear v;obtain⟨x0,x1,x2,x3,x4,x5,x6,x7,x8,x9⟩:=HX.out.c10;obtain⟨y0,y1,y2,y3,y4,y5,y6⟩:=HY.out.c7)|(go_at_call 54;(first|(with_reducible refine(K6.out _ u).mono ?_)|(with_reducible refine(K7.out _ u).mono ?_));rintro e wn ⟨A6,c6,m6,rfl,hm6,v⟩;replace u:=u.trans v;replace HX:=qh (HX.out.up v);replace HY:=qh (HY.out.up v);clear v;have hmz:=m6z m6;rw[hm6]at hmz;simp only[Bool.not_false]at hmz;obtain⟨x0,x1,x2,x3,x4,x5,x6,x7,x8,x9⟩:=HX.out.c10;obtain⟨y0,y1,y2,y3,y4,y5,y6⟩:=HY.out.c7)
   go_meet
   exact⟨_,_,rfl,rfl,by first|exact HV.out|(rw[← HV.out];simp_all;done)|(rw[← HV.out];simp_all;omega),u,HX.out,HY.out⟩
  have SK:sk=true:=by rw[HSK.out];simp
  by_cases h3:d.ha.toList=[]
  ·have h3e:d.ha.toList.isEmpty=true:=by simp[h3]
   have HV:=qh (show false=!(pk && (sk && hk)) by rw[PK,SK,HHK.out,h3];rfl)
   go_wp2_with first|(go_at_call 182;refine(K1.out _).mono ?_;rintro e wn ⟨rfl,rfl⟩)|(go_at_call 183;refine(K2.out _ u).mono ?_;rintro e wn ⟨rfl,v⟩;replace u:=u.trans v;replace HX:=qh (HX.out.up v);replace HY:=qh (HY.out.up v);clear v;obtain⟨x0,x1,x2,x3,x4,x5,x6,x7,x8,x9⟩:=HX.out.c10;obtain⟨y0,y1,y2,y3,y4,y5,y6⟩:=HY.out.c7)|(go_at_call 184;refine(K3.out _ u).mono ?_;rintro e wn ⟨z3,rfl,hz3,v⟩;replace u:=u.trans v;replace HX:=qh (HX.out.up v);replace HY:=qh (HY.out.up v);clear v;simp at hz3;obtain⟨x0,x1,x2,x3,x4,x5,x6,x7,x8,x9⟩:=HX.out.c10;obtain⟨y0,y1,y2,y3,y4,y5,y6⟩:=HY.out.c7)|(go_at_call 53;refine(K5.out _ u).mono ?_;rintro e wn ⟨rfl,v⟩;replace u:=u.trans v;replace HX:=qh (HX.out.up v);replace HY:=qh (HY.out.up v);clear v;obtain⟨x0,x1,x2,x3,x4,x5,x6,x7,x8,x9⟩:=HX.out.c10;obtain⟨y0,y1,y2,y3,y4,y5,y6⟩:=HY.out.c7)|(go_at_call 54;(first|(with_reducible refine(K6.out _ u).mono ?_)|(with_reducible refine(K7.out _ u).mono ?_));rintro e wn ⟨A6,c6,m6,rfl,hm6,v⟩;replace u:=u.trans v;replace HX:=qh (HX.out.up v);replace HY:=qh (HY.out.up v);clear v;have hmz:=m6z m6;rw[hm6]at hmz;simp only[Bool.not_true]at hmz;obtain⟨x0,x1,x2,x3,x4,x5,x6,x7,x8,x9⟩:=HX.out.c10;obtain⟨y0,y1,y2,y3,y4,y5,y6⟩:=HY.out.c7)
   go_meet
   exact⟨_,_,rfl,rfl,by first|exact HV.out|(rw[← HV.out];simp_all;done)|(rw[← HV.out];simp_all;omega),u,HX.out,HY.out⟩
  have h3e:d.ha.toList.isEmpty=false:=by simp[h3]
  rcases b7 with _|_
  ·have HV:=qh (show true=!(pk && (sk && hk)) by rw[PK,SK,HHK.out];simp[h3])
   go_wp2_with first|(go_at_call 182;refine(K1.out _).mono ?_;rintro e wn ⟨rfl,rfl⟩)|(go_at_call 183;refine(K2.out _ u).mono ?_;rintro e wn ⟨rfl,v⟩;replace u:=u.trans v;replace HX:=qh (HX.out.up v);replace HY:=qh (HY.out.up v);clear v;obtain⟨x0,x1,x2,x3,x4,x5,x6,x7,x8,x9⟩:=HX.out.c10;obtain⟨y0,y1,y2,y3,y4,y5,y6⟩:=HY.out.c7)|(go_at_call 184;refine(K3.out _ u).mono ?_;rintro e wn ⟨z3,rfl,hz3,v⟩;replace u:=u.trans v;replace HX:=qh (HX.out.up v);replace HY:=qh (HY.out.up v);clear v;simp at hz3;obtain⟨x0,x1,x2,x3,x4,x5,x6,x7,x8,x9⟩:=HX.out.c10;obtain⟨y0,y1,y2,y3,y4,y5,y6⟩:=HY.out.c7)|(go_at_call 53;refine(K5.out _ u).mono ?_;rintro e wn ⟨rfl,v⟩;replace u:=u.trans v;replace HX:=qh (HX.out.up v);replace HY:=qh (HY.out.up v);clear v;obtain⟨x0,x1,x2,x3,x4,x5,x6,x7,x8,x9⟩:=HX.out.c10;obtain⟨y0,y1,y2,y3,y4,y5,y6⟩:=HY.out.c7)|(go_at_call 54;(first|(with_reducible refine(K6.out _ u).mono ?_)|(with_reducible refine(K7.out _ u).mono ?_));rintro e wn ⟨A6,c6,m6,rfl,hm6,v⟩;replace u:=u.trans v;replace HX:=qh (HX.out.up v);replace HY:=qh (HY.out.up v);clear v;have hmz:=m6z m6;rw[hm6]at hmz;simp only[Bool.not_true,Bool.not_false]at hmz;obtain⟨x0,x1,x2,x3,x4,x5,x6,x7,x8,x9⟩:=HX.out.c10;obtain⟨y0,y1,y2,y3,y4,y5,y6⟩:=HY.out.c7)
   go_meet
   exact⟨_,_,rfl,rfl,by first|exact HV.out|(rw[← HV.out];simp_all;done)|(rw[← HV.out];simp_all;omega),u,HX.out,HY.out⟩
  have HV:=qh (show false=!(pk && (sk && hk)) by rw[PK,SK,HHK.out];simp)
  go_wp2_with first|(go_at_call 182;refine(K1.out _).mono ?_;rintro e wn ⟨rfl,rfl⟩)|(go_at_call 183;refine(K2.out _ u).mono ?_;rintro e wn ⟨rfl,v⟩;replace u:=u.trans v;replace HX:=qh (HX.out.up v);replace HY:=qh (HY.out.up v);clear v;obtain⟨x0,x1,x2,x3,x4,x5,x6,x7,x8,x9⟩:=HX.out.c10;obtain⟨y0,y1,y2,y3,y4,y5,y6⟩:=HY.out.c7)|(go_at_call 184;refine(K3.out _ u).mono ?_;rintro e wn ⟨z3,rfl,hz3,v⟩;replace u:=u.trans v;replace HX:=qh (HX.out.up v);replace HY:=qh (HY.out.up v);clear v;simp at hz3;obtain⟨x0,x1,x2,x3,x4,x5,x6,x7,x8,x9⟩:=HX.out.c10;obtain⟨y0,y1,y2,y3,y4,y5,y6⟩:=HY.out.c7)|(go_at_call 53;refine(K5.out _ u).mono ?_;rintro e wn ⟨rfl,v⟩;replace u:=u.trans v;replace HX:=qh (HX.out.up v);replace HY:=qh (HY.out.up v);clear v;obtain⟨x0,x1,x2,x3,x4,x5,x6,x7,x8,x9⟩:=HX.out.c10;obtain⟨y0,y1,y2,y3,y4,y5,y6⟩:=HY.out.c7)|(go_at_call 54;(first|(with_reducible refine(K6.out _ u).mono ?_)|(with_reducible refine(K7.out _ u).mono ?_));rintro e wn ⟨A6,c6,m6,rfl,hm6,v⟩;replace u:=u.trans v;replace HX:=qh (HX.out.up v);replace HY:=qh (HY.out.up v);clear v;have hmz:=m6z m6;rw[hm6]at hmz;simp only[Bool.not_true]at hmz;obtain⟨x0,x1,x2,x3,x4,x5,x6,x7,x8,x9⟩:=HX.out.c10;obtain⟨y0,y1,y2,y3,y4,y5,y6⟩:=HY.out.c7)
  go_meet
  exact⟨_,_,rfl,rfl,by first|exact HV.out|(rw[← HV.out];simp_all;done)|(rw[← HV.out];simp_all;omega),u,HX.out,HY.out⟩
 case rest =>
 obtain⟨W1,bo,hW,rfl,hbo,u1,X1,Y1⟩:=hcut
 subst hW;have HBO:=qh hbo
 clear hbo u0 u HX HY K1 K2 K3 K5 K6 K7 HPK HSK HHK x0 x1 x2 x3 x4 x5 x6 x7 x8 x9 y0 y1 y2 y3 y4 y5 y6;rcases bo with _|_
 rotate_left
 ·go_wp2
  go_ret;exact⟨ret_bool (by rw[HE2.out];exact(bo_t HBO.out).symm),u1⟩
 have HE:=qh (show d0B x.p (s.l.map Dd.p) d.p=allK d.ci.l (ctQ (s.l.map Dd.p) d.p) by rw[HE2.out];exact bo_f HBO.out)
 clear HBO HE2;have hcr:=HCI.out.rd
 have hchi:=HCI.out.hhi
 have hcn:d.ci.l.length≤2000000:=HCI.out.len
 have hcc:d.ci.l.length≤d.ci.c:=HCI.out.cap.1
 have hcm:d.ci.c≤maxLen:=HCI.out.cap.2
 unfold maxLen at hcm
 have HX1:=qh X1
 have HY1:=qh Y1
 clear X1 Y1;obtain⟨nm,da,wi,pl,se,ha,⟨CA,cc,ci⟩⟩:=d
 simp only at hcr hchi hcn hcc h8' HE
 have HY2:Hid (Bx W1 (w.heap.size+1) [.string nm,.slice da.A da.l.length da.c,.slice wi.A wi.l.length wi.c,.string pl,.string se,.string ha,.slice CA ci.length cc]):=HY1
 clear HY1;obtain⟨y0,y1,y2,y3,y4,y5,y6⟩:=HY2.out.c7
 clear y1 y2 y3 y4 y5;generalize hL:s.l.map Dd.p=L at *
 have HL:=qh hL
 clear hL;obtain⟨pd,hpd⟩:∃z,z=Dd.p ⟨nm,da,wi,pl,se,ha,⟨CA,cc,ci⟩⟩:=⟨_,rfl⟩
 have HE3:=qh (show d0B x.p L (Dd.p ⟨nm,da,wi,pl,se,ha,⟨CA,cc,ci⟩⟩)=allK ci (ctQ L pd) by rw[hpd];exact HE.out)
 have HCT:=qh (fun(k:Nat) (z:ByteArray)=>show ctQ L pd k z=((!(z.toList==nm.toList)) && (ddIn L z && !decide (0≤txIx (ci.take k) z))) by rw[hpd,tx_in];rfl)
 clear HE hpd;have hb:w.heap.size+1=w.heap.size+1:=rfl
 go_wp2;go_loopw [7] (fun i wr=>∃k:Nat,k≤ci.length∧i=.int .i64 k∧(∀j z,j<k→ci[j]?=some z→ctQ L pd j z=true)∧Up W1 wr) (fun i _=>ci.length-(intOf i).toNat)
 case atStart=>exact⟨0,Nat.zero_le _,rfl,fun j d h=>absurd h (by omega),Up.refl _⟩
 case round =>
  obtain⟨k,hk,rfl,ha',hup⟩:=hrel
  have HA:=qh ha'
  clear ha';obtain⟨y0,y1,y2,y3,y4,y5,y6⟩:=(HY2.out.up hup).c7
  clear y1 y2 y3 y4 y5;by_cases hlt:k<ci.length
  ·have R:=qh ((hcr.take k).up (u1.trans hup) hchi)
   obtain⟨b,off,z,rfl,-,-,hz,q0⟩:=(hcr.up (u1.trans hup) hchi).txt hlt
   have HD:=qh hz
   clear hz;have hkc:k≤cc:=by omega
   have hhr:hi≤wr.heap.size:=Nat.le_trans hchi (u1.trans hup).size
   have Y0:=cell_regrown y0
   have Y6:=cell_regrown y6
   have Q0:=cell_regrown q0
   obtain⟨fz,hfz⟩:∃t,t=dIx s.l z:=⟨_,rfl⟩
   obtain⟨tz,htz⟩:∃t,t=txIx (ci.take k) z:=⟨_,rfl⟩
   have cF:∀dd os,Calls Tryz.prog 143 #[.slice s.A s.l.length s.c,.string z] (grow (redrawn wr dd) os) fun e w''=>e=.returned (.int .i64 fz)∧∃p:Regrown,w''=grow (redrawn wr p.d) p.os:=fun dd os=>by
    rw[hfz];exact Calls.regrown_of (l17Find_any s.A s.l s.c lo hi z _ ((H2.out.up (u1.trans hup)).up (below_regrown wr dd os)).rd H2.out.len)
   have cT:∀dd os,Calls Tryz.prog 53 #[.slice (some ⟨b,off,none⟩) k cc,.string z] (grow (redrawn wr dd) os) fun e w''=>e=.returned (.int .i64 tz)∧∃p:Regrown,w''=grow (redrawn wr p.d) p.os:=fun dd os=>by
    have h:=l01TextB_any (some ⟨b,off,none⟩) (ci.take k) cc lo hi z _ (R.out.up (below_regrown wr dd os) hhr) (by rw[List.length_take];omega)
    rw[List.length_take,Nat.min_eq_left hk]at h;rw[htz];exact Calls.regrown_of h
   have HQ:=qh (show ctQ L pd k z=((!(z.toList==nm.toList)) && (decide (0≤fz) && !decide (0≤tz))) by rw[HCT.out,htz,hfz,dIx_in,HL.out])
   clear hfz htz;go_wp2_with fail
   clear y0 y6 q0;rcases he:(z.toList==nm.toList) with _|_
   rotate_left
   ·have HEQ:=qh he
    refine wp_region_quiet_below (by kernel_rfl) (by kernel_rfl) ?_
    repeat (first|go_big_quiet_step ((first|(go_at_call 143;exact cF _ _)|(go_at_call 53;exact cT _ _)))|quiet_step ((first|(go_at_call 143;exact cF _ _)|(go_at_call 53;exact cT _ _))))
    refine wpQuiet_nil ?_
    intro w2 hw2
    obtain⟨⟨dq,osq⟩,hw2⟩:=hw2
    have hup2:Up wr w2:=by rw[hw2];exact below_regrown _ _ _
    clear hw2 Y0 Y6 Q0 cF cT;go_wp2;go_ret;exact⟨ret_bool (by rw[HL.out,HE3.out];exact(ctno HD.out (by rw[HQ.out,HEQ.out];rfl)).symm),u1.trans (hup.trans hup2)⟩
   have HEQ:=qh he
   by_cases h1:fz<0
   ·have HN1:=qh (show decide (0≤fz)=false by simp;omega)
    refine wp_region_quiet_below (by kernel_rfl) (by kernel_rfl) ?_
    repeat (first|go_big_quiet_step ((first|(go_at_call 143;exact cF _ _)|(go_at_call 53;exact cT _ _)))|quiet_step ((first|(go_at_call 143;exact cF _ _)|(go_at_call 53;exact cT _ _))))
    refine wpQuiet_nil ?_
    intro w2 hw2
    obtain⟨⟨dq,osq⟩,hw2⟩:=hw2
    have hup2:Up wr w2:=by rw[hw2];exact below_regrown _ _ _
    clear hw2 Y0 Y6 Q0 cF cT;go_wp2;go_ret;exact⟨ret_bool (by rw[HL.out,HE3.out];exact(ctno HD.out (by rw[HQ.out,HEQ.out,HN1.out];rfl)).symm),u1.trans (hup.trans hup2)⟩
   by_cases h2:0≤tz
   ·refine wp_region_quiet_below (by kernel_rfl) (by kernel_rfl) ?_
    repeat (first|go_big_quiet_step ((first|(go_at_call 143;exact cF _ _)|(go_at_call 53;exact cT _ _)))|quiet_step ((first|(go_at_call 143;exact cF _ _)|(go_at_call 53;exact cT _ _))))
    refine wpQuiet_nil ?_
    intro w2 hw2
    obtain⟨⟨dq,osq⟩,hw2⟩:=hw2
    have hup2:Up wr w2:=by rw[hw2];exact below_regrown _ _ _
    clear hw2 Y0 Y6 Q0 cF cT;go_wp2;go_ret;exact⟨ret_bool (by rw[HL.out,HE3.out];exact(ctno HD.out (by rw[HQ.out,HEQ.out,decide_eq_true h2];simp)).symm),u1.trans (hup.trans hup2)⟩
   have h1':0≤fz:=by omega
   have HG:=qh (show ctQ L pd k z=true by rw[HQ.out,HEQ.out,decide_eq_true h1',decide_eq_false h2];rfl)
   refine wp_region_quiet_below (by kernel_rfl) (by kernel_rfl) ?_
   repeat (first|go_big_quiet_step ((first|(go_at_call 143;exact cF _ _)|(go_at_call 53;exact cT _ _)))|quiet_step ((first|(go_at_call 143;exact cF _ _)|(go_at_call 53;exact cT _ _))))
   refine wpQuiet_nil ?_
   intro w2 hw2
   obtain⟨⟨dq,osq⟩,hw2⟩:=hw2
   have hup2:Up wr w2:=by rw[hw2];exact below_regrown _ _ _
   clear hw2 Y0 Y6 Q0 cF cT;go_wp2;go_roundw
   case rel=>exact⟨k+1,by omega,by go_num,allK_step HA.out HD.out HG.out,hup.trans hup2⟩
   case measure=>simp[intOf];omega
  ·have HF:=qh (allK_end (l:=ci) (q:=ctQ L pd) (fun j d hj hd=>HA.out j d (by omega) hd))
   go_wp2;go_ret;exact⟨ret_bool (by rw[HL.out,HE3.out,HF.out]),u1.trans hup⟩
theorem specAreDeeds_any(x:Wd)(s:Sl Dd)(lo hi:Nat)(w:World)(h:RdW w lo hi x)(h2:RdDd w lo hi s) :
 Calls Tryz.prog 93 #[x.val,.slice s.A s.l.length s.c] w fun e w'=>e=.returned (.bool (dsB x.p (s.l.map Dd.p)))∧Up w w':=by
 obtain⟨SA,sc,l⟩:=s
 have hcr:Rd w lo hi 7 Dd.cells SA l:=h2.rd
 have hchi:=h2.hhi
 have hcn:l.length≤2000000:=h2.len
 have hcc:l.length≤sc:=h2.cap.1
 have hcm:sc≤maxLen:=h2.cap.2
 unfold maxLen at hcm
 have H2:=qh h2
 clear h2;obtain⟨b1,hb1⟩:∃z,z=wdB x.p:=⟨_,rfl⟩
 have cW:=fun wx (u:Up w wx)=>specIsWorld_any x lo hi wx (h.up u)
 simp only[← hb1]at cW
 have K1:=qh cW
 have HB:=qh hb1
 have HW:=qh h
 have HE:=qh (show dsB x.p (l.map Dd.p)=(b1 && (decide (l.length≤8) && allK (l.map Dd.p) (ddQ x.p (l.map Dd.p)))) by unfold dsB;rw[hb1,List.length_map])
 clear cW hb1 h;have hX:=Bx.new w #[.slice x.rs.A x.rs.l.length x.rs.c,.int .i64 x.fr,.int .i64 x.to_,.slice x.ps.A x.ps.l.length x.ps.c,.slice x.ts.A x.ts.l.length x.ts.c,.slice x.pl.A x.pl.l.length x.pl.c,.slice x.ws.A x.ws.l.length x.ws.c,.slice x.st.A x.st.l.length x.st.c,.slice x.se.A x.se.l.length x.se.c,.slice x.ha.A x.ha.l.length x.ha.c] 59
 have u:Up w (w.alloc (.cells #[.slice x.rs.A x.rs.l.length x.rs.c,.int .i64 x.fr,.int .i64 x.to_,.slice x.ps.A x.ps.l.length x.ps.c,.slice x.ts.A x.ts.l.length x.ts.c,.slice x.pl.A x.pl.l.length x.pl.c,.slice x.ws.A x.ws.l.length x.ws.c,.slice x.st.A x.st.l.length x.st.c,.slice x.se.A x.se.l.length x.se.c,.slice x.ha.A x.ha.l.length x.ha.c] 59)):=Up.alloc _ _
 go_enter Tryz.func93,Tryz.ntmps93
 go_wp2_with fail
 generalize w.alloc (.cells #[.slice x.rs.A x.rs.l.length x.rs.c,.int .i64 x.fr,.int .i64 x.to_,.slice x.ps.A x.ps.l.length x.ps.c,.slice x.ts.A x.ts.l.length x.ts.c,.slice x.pl.A x.pl.l.length x.pl.c,.slice x.ws.A x.ws.l.length x.ws.c,.slice x.st.A x.st.l.length x.st.c,.slice x.se.A x.se.l.length x.se.c,.slice x.ha.A x.ha.l.length x.ha.c] 59)=w0 at *
 have HX:=qh hX
 clear hX;obtain⟨x0,x1,x2,x3,x4,x5,x6,x7,x8,x9⟩:=HX.out.c10
 rcases b1 with _|_
 ·go_wp2_with first|(go_at_call 141;refine(K1.out _ u).mono ?_;rintro e wn ⟨rfl,v⟩;replace u:=u.trans v;replace HX:=qh (HX.out.up v);clear v;obtain⟨x0,x1,x2,x3,x4,x5,x6,x7,x8,x9⟩:=HX.out.c10)
  all_goals (go_ret;exact⟨ret_bool (by rw[HE.out];rfl),u⟩)
 by_cases h8:l.length≤8
 rotate_left
 ·have h8':8<l.length:=by omega
  go_wp2_with first|(go_at_call 141;refine(K1.out _ u).mono ?_;rintro e wn ⟨rfl,v⟩;replace u:=u.trans v;replace HX:=qh (HX.out.up v);clear v;obtain⟨x0,x1,x2,x3,x4,x5,x6,x7,x8,x9⟩:=HX.out.c10)
  all_goals (go_ret;exact⟨ret_bool (by rw[HE.out];simp[h8]),u⟩)
 have h8':¬ 8<l.length:=by omega
 have hwd:wdB x.p=true:=HB.out.symm
 have HD0:=qh hwd
 have HE2:=qh (show dsB x.p (l.map Dd.p)=allK (l.map Dd.p) (ddQ x.p (l.map Dd.p)) by rw[HE.out,decide_eq_true h8];rfl)
 clear HE HB hwd;go_wp2_with first|(go_at_call 141;refine(K1.out _ u).mono ?_;rintro e wn ⟨rfl,v⟩;replace u:=u.trans v;replace HX:=qh (HX.out.up v);clear v;obtain⟨x0,x1,x2,x3,x4,x5,x6,x7,x8,x9⟩:=HX.out.c10)
 clear x0 x1 x2 x3 x4 x5 x6 x7 x8 x9 K1;have u0:=u
 clear u;obtain⟨wb,rfl⟩:∃z,z=wn:=⟨_,rfl⟩
 go_loopw [5] (fun i wr=>∃k:Nat,k≤l.length∧i=.int .i64 k∧(∀j z,j<k→(l.map Dd.p)[j]?=some z→ddQ x.p (l.map Dd.p) j z=true)∧Up wb wr) (fun i _=>l.length-(intOf i).toNat)
 case atStart=>exact⟨0,Nat.zero_le _,rfl,fun j d h=>absurd h (by omega),Up.refl _⟩
 case round =>
  obtain⟨k,hk,rfl,ha',hup⟩:=hrel
  have HA:=qh ha'
  clear ha';obtain⟨x0,x1,x2,x3,x4,x5,x6,x7,x8,x9⟩:=(HX.out.up hup).c10
  by_cases hlt:k<l.length
  ·obtain⟨b,off,d,rfl,-,-,hz,q0,q1,q2,q3,q4,q5,q6⟩:=(hcr.up (u0.trans hup) hchi).dd hlt
   have HZ:=qh hz
   have HDM:=qh (show(l.map Dd.p)[k]?=some d.p by rw[List.getElem?_map,hz];rfl)
   have hdm:=List.mem_of_getElem? hz
   have HRE:=qh (((H2.out.up (u0.trans hup)).each) d hdm)
   clear hz hdm;have hkc:k≤sc:=by omega
   have hhr:hi≤wr.heap.size:=Nat.le_trans hchi (u0.trans hup).size
   have HRW:=qh (HW.out.up (u0.trans hup))
   have HRS:=qh (H2.out.up (u0.trans hup))
   have Z0:=cell_regrown x0
   have Z1:=cell_regrown x1
   have Z2:=cell_regrown x2
   have Z3:=cell_regrown x3
   have Z4:=cell_regrown x4
   have Z5:=cell_regrown x5
   have Z6:=cell_regrown x6
   have Z7:=cell_regrown x7
   have Z8:=cell_regrown x8
   have Z9:=cell_regrown x9
   have B0:=cell_regrown q0
   have B1:=cell_regrown q1
   have B2:=cell_regrown q2
   have B3:=cell_regrown q3
   have B4:=cell_regrown q4
   have B5:=cell_regrown q5
   have B6:=cell_regrown q6
   obtain⟨db,hdb⟩:∃t,t=d0B x.p (l.map Dd.p) d.p:=⟨_,rfl⟩
   obtain⟨fz,hfz⟩:∃t,t=dIx (l.take k) d.nm:=⟨_,rfl⟩
   have cD:∀dd os,Calls Tryz.prog 142 #[x.val,.slice (some ⟨b,off,none⟩) l.length sc,d.val] (grow (redrawn wr dd) os) fun e w''=>e=.returned (.bool db)∧∃p:Regrown,w''=grow (redrawn wr p.d) p.os:=fun dd os=>by
    rw[hdb];exact Calls.regrown_of (l17Deed_any x ⟨some ⟨b,off,none⟩,sc,l⟩ d lo hi _ (HRW.out.up (below_regrown wr dd os)) (HRS.out.up (below_regrown wr dd os)) (HRE.out.up (below_regrown wr dd os)) HD0.out)
   have cF:∀dd os,Calls Tryz.prog 143 #[.slice (some ⟨b,off,none⟩) k sc,.string d.nm] (grow (redrawn wr dd) os) fun e w''=>e=.returned (.int .i64 fz)∧∃p:Regrown,w''=grow (redrawn wr p.d) p.os:=fun dd os=>by
    have h:=l17Find_any (some ⟨b,off,none⟩) (l.take k) sc lo hi d.nm _ ((HRS.out.rd.take k).up (below_regrown wr dd os) hhr) (by rw[List.length_take];omega)
    rw[List.length_take,Nat.min_eq_left hk]at h;rw[hfz];exact Calls.regrown_of h
   have HQ:=qh (show ddQ x.p (l.map Dd.p) k d.p=(db && !decide (0≤fz)) by unfold ddQ;rw[hdb,hfz,dIx_in,List.map_take])
   clear hfz hdb;go_wp2_with fail
   clear x0 x1 x2 x3 x4 x5 x6 x7 x8 x9 q0 q1 q2 q3 q4 q5 q6;rcases db with _|_
   ·refine wp_region_quiet_below (by kernel_rfl) (by kernel_rfl) ?_
    repeat (first|go_big_quiet_step ((first|(go_at_call 142;exact cD _ _)|(go_at_call 143;exact cF _ _)))|quiet_step ((first|(go_at_call 142;exact cD _ _)|(go_at_call 143;exact cF _ _))))
    refine wpQuiet_nil ?_
    intro w2 hw2
    obtain⟨⟨dq,osq⟩,hw2⟩:=hw2
    have hup2:Up wr w2:=by rw[hw2];exact below_regrown _ _ _
    clear hw2 Z0 Z1 Z2 Z3 Z4 Z5 Z6 Z7 Z8 Z9 B0 B1 B2 B3 B4 B5 B6 cD cF;go_wp2;go_ret;exact⟨ret_bool (by rw[HE2.out];exact(allK_no HDM.out (by rw[HQ.out];rfl)).symm),u0.trans (hup.trans hup2)⟩
   by_cases h2:0≤fz
   ·refine wp_region_quiet_below (by kernel_rfl) (by kernel_rfl) ?_
    repeat (first|go_big_quiet_step ((first|(go_at_call 142;exact cD _ _)|(go_at_call 143;exact cF _ _)))|quiet_step ((first|(go_at_call 142;exact cD _ _)|(go_at_call 143;exact cF _ _))))
    refine wpQuiet_nil ?_
    intro w2 hw2
    obtain⟨⟨dq,osq⟩,hw2⟩:=hw2
    have hup2:Up wr w2:=by rw[hw2];exact below_regrown _ _ _
    clear hw2 Z0 Z1 Z2 Z3 Z4 Z5 Z6 Z7 Z8 Z9 B0 B1 B2 B3 B4 B5 B6 cD cF;go_wp2;go_ret;exact⟨ret_bool (by rw[HE2.out];exact(allK_no HDM.out (by rw[HQ.out,decide_eq_true h2];rfl)).symm),u0.trans (hup.trans hup2)⟩
   have HG:=qh (show ddQ x.p (l.map Dd.p) k d.p=true by rw[HQ.out,decide_eq_false h2];rfl)
   refine wp_region_quiet_below (by kernel_rfl) (by kernel_rfl) ?_
   repeat (first|go_big_quiet_step ((first|(go_at_call 142;exact cD _ _)|(go_at_call 143;exact cF _ _)))|quiet_step ((first|(go_at_call 142;exact cD _ _)|(go_at_call 143;exact cF _ _))))
   refine wpQuiet_nil ?_
   intro w2 hw2
   obtain⟨⟨dq,osq⟩,hw2⟩:=hw2
   have hup2:Up wr w2:=by rw[hw2];exact below_regrown _ _ _
   clear hw2 Z0 Z1 Z2 Z3 Z4 Z5 Z6 Z7 Z8 Z9 B0 B1 B2 B3 B4 B5 B6 cD cF;go_wp2;go_roundw
   case rel=>exact⟨k+1,by omega,by go_num,allK_step HA.out HDM.out HG.out,hup.trans hup2⟩
   case measure=>simp[intOf];omega
  ·have HF:=qh (allK_end (l:=l.map Dd.p) (q:=ddQ x.p (l.map Dd.p)) (fun j d hj hd=>HA.out j d (by rw[List.length_map]at hj;omega) hd))
   go_wp2;go_ret;exact⟨ret_bool (by rw[HE2.out,HF.out]),u0.trans hup⟩
end Go.Proofs.YtihcmhmanfobcaaGreatDoor
