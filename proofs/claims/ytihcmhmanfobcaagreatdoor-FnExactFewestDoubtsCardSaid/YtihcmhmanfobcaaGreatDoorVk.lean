/- A decision as Lean data, and the walks of the law package's helpers over decisions. -/
import Derived.Test.YtihcmhmanfobcaaGreatDoorProg
import Derived.Test.YtihcmhmanfobcaaGreatDoorLib
import Derived.Test.YtihcmhmanfobcaaGreatDoorVa
import Derived.Test.YtihcmhmanfobcaaGreatDoorVi
import Derived.Test.YtihcmhmanfobcaaGreatDoorVh
import Derived.Test.YtihcmhmanfobcaaGreatDoorVb
set_option maxHeartbeats 4000000
set_option maxRecDepth 20000
namespace Go.Proofs.YtihcmhmanfobcaaGreatDoor
open Go.RowKit
structure Dec where
 deed:ByteArray
 kind:Int
 day:Int
 by_:ByteArray
 deriving DecidableEq
abbrev Dec.cells(d:Dec):List Value:=[.string d.deed,.int .i64 d.kind,.int .i64 d.day,.string d.by_]
abbrev Dec.val(d:Dec):Value:=.agg #[.string d.deed,.int .i64 d.kind,.int .i64 d.day,.string d.by_]
def Dec.ok(d:Dec):Prop:=d.deed.size≤maxLen∧d.by_.size≤maxLen
end Go.Proofs.YtihcmhmanfobcaaGreatDoor
namespace Go.Proofs.YtihcmhmanfobcaaGreatDoor
open Go.RowKit Go.Sort
abbrev phsB(q:List (Sl ByteArray)):Bool:=q.all fun p=>phB p.l
theorem phsB_no{q:List (Sl ByteArray)}{k:Nat}{p:Sl ByteArray}(h:q[k]?=some p)(h2:phB p.l=false):phsB q=false:=by
 rw[List.all_eq_false];exact⟨p,List.mem_of_getElem? h,by simp[h2]⟩
def evB(x:Pw)(ds:List Pd)(fs:List Fm)(q:List (Sl ByteArray)):Bool:=dsB x ds && (afB fs && (decide (q.length=ds.length) && phsB q))
theorem specIsEvidence_any(x:Wd)(s:Sl Dd)(g:Sl Fm)(q:Sl (Sl ByteArray))(lo hi:Nat)(w:World)(h:RdW w lo hi x)(h2:RdDd w lo hi s)(h3:SrF w lo hi g)(h4:SrPh w lo hi q) :
 Calls Tryz.prog 48 #[.agg #[.slice x.rs.A x.rs.l.length x.rs.c,.int .i64 x.fr,.int .i64 x.to_,.slice x.ps.A x.ps.l.length x.ps.c,.slice x.ts.A x.ts.l.length x.ts.c,.slice x.pl.A x.pl.l.length x.pl.c,.slice x.ws.A x.ws.l.length x.ws.c,.slice x.st.A x.st.l.length x.st.c,.slice x.se.A x.se.l.length x.se.c,.slice x.ha.A x.ha.l.length x.ha.c,.slice s.A s.l.length s.c,.slice g.A g.l.length g.c,.slice q.A q.l.length q.c]] w fun e w'=>e=.returned (.bool (evB x.p (s.l.map Dd.p) g.l q.l))∧Up w w':=by
 have hsl:=h2.len
 have hql:=h4.len
 obtain⟨b1,hb1⟩:∃z,z=dsB x.p (s.l.map Dd.p):=⟨_,rfl⟩
 obtain⟨b2,hb2⟩:∃z,z=afB g.l:=⟨_,rfl⟩
 have c1:=fun wx (u:Up w wx)=>specAreDeeds_any x s lo hi wx (h.up u) (h2.up u)
 have c2:=fun wx (u:Up w wx)=>specAreFormulas_any g.A g.l g.c lo hi wx ((h3.up u).rd) ((h3.up u).hhi) h3.ok h3.ws h3.len
 simp only[← hb1]at c1
 simp only[← hb2]at c2
 have HE:=qh (show evB x.p (s.l.map Dd.p) g.l q.l=(b1 && (b2 && (decide (q.l.length=s.l.length) && phsB q.l))) by unfold evB;rw[hb1,hb2,List.length_map])
 have K1:=qh c1
 have K2:=qh c2
 have H4:=qh h4
 clear hb1 hb2 c1 c2 h h2 h3 h4;have u:=Up.alloc w (.cells #[.slice x.rs.A x.rs.l.length x.rs.c,.int .i64 x.fr,.int .i64 x.to_,.slice x.ps.A x.ps.l.length x.ps.c,.slice x.ts.A x.ts.l.length x.ts.c,.slice x.pl.A x.pl.l.length x.pl.c,.slice x.ws.A x.ws.l.length x.ws.c,.slice x.st.A x.st.l.length x.st.c,.slice x.se.A x.se.l.length x.se.c,.slice x.ha.A x.ha.l.length x.ha.c,.slice s.A s.l.length s.c,.slice g.A g.l.length g.c,.slice q.A q.l.length q.c] 63)
 have hB:=Bx.new w #[.slice x.rs.A x.rs.l.length x.rs.c,.int .i64 x.fr,.int .i64 x.to_,.slice x.ps.A x.ps.l.length x.ps.c,.slice x.ts.A x.ts.l.length x.ts.c,.slice x.pl.A x.pl.l.length x.pl.c,.slice x.ws.A x.ws.l.length x.ws.c,.slice x.st.A x.st.l.length x.st.c,.slice x.se.A x.se.l.length x.se.c,.slice x.ha.A x.ha.l.length x.ha.c,.slice s.A s.l.length s.c,.slice g.A g.l.length g.c,.slice q.A q.l.length q.c] 63
 go_enter Tryz.func48,Tryz.ntmps48
 go_wp2_with fail
 generalize w.alloc (.cells #[.slice x.rs.A x.rs.l.length x.rs.c,.int .i64 x.fr,.int .i64 x.to_,.slice x.ps.A x.ps.l.length x.ps.c,.slice x.ts.A x.ts.l.length x.ts.c,.slice x.pl.A x.pl.l.length x.pl.c,.slice x.ws.A x.ws.l.length x.ws.c,.slice x.st.A x.st.l.length x.st.c,.slice x.se.A x.se.l.length x.se.c,.slice x.ha.A x.ha.l.length x.ha.c,.slice s.A s.l.length s.c,.slice g.A g.l.length g.c,.slice q.A q.l.length q.c] 63)=W1 at *
 obtain⟨x0,x1,x2,x3,x4,x5,x6,x7,x8,x9,x10,x11,x12⟩:=hB.c13
 rcases b1 with _|_
 ·go_wp2_with first|(go_at_call 93;refine(K1.out _ u).mono ?_;rintro e wn ⟨rfl,v⟩;replace u:=u.trans v;replace hB:=hB.up v;clear v;obtain⟨x0,x1,x2,x3,x4,x5,x6,x7,x8,x9,x10,x11,x12⟩:=hB.c13)|(go_at_call 94;refine(K2.out _ u).mono ?_;rintro e wn ⟨rfl,v⟩;replace u:=u.trans v;replace hB:=hB.up v;clear v;obtain⟨x0,x1,x2,x3,x4,x5,x6,x7,x8,x9,x10,x11,x12⟩:=hB.c13)
  go_ret;exact⟨ret_bool (by rw[HE.out];rfl),u⟩
 rcases b2 with _|_
 ·go_wp2_with first|(go_at_call 93;refine(K1.out _ u).mono ?_;rintro e wn ⟨rfl,v⟩;replace u:=u.trans v;replace hB:=hB.up v;clear v;obtain⟨x0,x1,x2,x3,x4,x5,x6,x7,x8,x9,x10,x11,x12⟩:=hB.c13)|(go_at_call 94;refine(K2.out _ u).mono ?_;rintro e wn ⟨rfl,v⟩;replace u:=u.trans v;replace hB:=hB.up v;clear v;obtain⟨x0,x1,x2,x3,x4,x5,x6,x7,x8,x9,x10,x11,x12⟩:=hB.c13)
  go_ret;exact⟨ret_bool (by rw[HE.out];rfl),u⟩
 by_cases hl:q.l.length=s.l.length
 ·have HL:=qh hl
  have e1:((q.l.length:Int)==(s.l.length:Int))=true:=by simp[hl]
  have e2:((q.l.length:Int) != (s.l.length:Int))=false:=by simp[hl]
  have e3:(q.l.length==s.l.length)=true:=by simp[hl]
  have e4:(q.l.length != s.l.length)=false:=by simp[hl]
  clear hl;go_wp2_with first|(go_at_call 93;refine(K1.out _ u).mono ?_;rintro e wn ⟨rfl,v⟩;replace u:=u.trans v;replace hB:=hB.up v;clear v;obtain⟨x0,x1,x2,x3,x4,x5,x6,x7,x8,x9,x10,x11,x12⟩:=hB.c13)|(go_at_call 94;refine(K2.out _ u).mono ?_;rintro e wn ⟨rfl,v⟩;replace u:=u.trans v;replace hB:=hB.up v;clear v;obtain⟨x0,x1,x2,x3,x4,x5,x6,x7,x8,x9,x10,x11,x12⟩:=hB.c13)
  clear e1 e2 e3 e4;obtain⟨W2,rfl⟩:∃x,x=wn:=⟨_,rfl⟩
  go_loopw [3] (fun i wr=>∃k:Nat,k≤q.l.length∧i=.int .i64 k∧(∀(j:Nat) p,j<k→q.l[j]?=some p→phB p.l=true)∧Up W2 wr) (fun i _=>q.l.length-(intOf i).toNat)
  case atStart=>exact⟨0,Nat.zero_le _,rfl,fun j p h=>absurd h (by omega),Up.refl _⟩
  case round =>
   obtain⟨k,hk,rfl,ha,hup⟩:=hrel
   have HA:=qh ha
   clear ha x0 x1 x2 x3 x4 x5 x6 x7 x8 x9 x10 x11 x12;obtain⟨x0,x1,x2,x3,x4,x5,x6,x7,x8,x9,x10,x11,x12⟩:=(hB.up hup).c13
   by_cases hlt:k<q.l.length
   ·obtain⟨b,off,p,hq,-,-,hd,q0⟩:=((H4.out.up u).up hup).rd.ph hlt
    rw[hq]at x12;have HD:=qh hd
    have HQ:=qh hq
    have hp:=H4.out.each p (List.mem_of_getElem? hd)
    have hpw:=(hp.up u).up hup
    have HC:=qh (l10Phrase_any p.A p.l p.c lo hi wr hpw.rd hpw.ok hpw.len)
    clear hd hq hp hpw;rcases hz:phB p.l with _|_
    all_goals (have HC:=HC.out;rw[hz]at HC;have HC:=qh HC;have HZ:=qh hz;clear hz)
    ·go_wp2_with (go_at_call 95;refine HC.out.mono ?_;rintro e w' ⟨rfl,rfl⟩)
     go_ret;exact⟨ret_bool (by rw[HE.out,phsB_no HD.out HZ.out];simp),u.trans hup⟩
    ·go_wp2_with (go_at_call 95;refine HC.out.mono ?_;rintro e w' ⟨rfl,rfl⟩)
     go_roundw
     case rel=>exact⟨k+1,by omega,by go_num,fun j x hj hx=>by
      rcases Nat.lt_or_ge j k with h|h
      ·exact HA.out j x h hx
      ·obtain rfl:j=k:=by omega
       rw[HD.out]at hx;cases hx;exact HZ.out,hup⟩
     case measure=>simp[intOf];omega
   ·have hall:phsB q.l=true:=by
     rw[List.all_eq_true];intro p hp
     obtain⟨j,hj⟩:=List.mem_iff_getElem?.1 hp
     exact HA.out j p (by have:=(List.getElem?_eq_some_iff.1 hj).1;omega) hj
    have HALL:=qh hall
    clear hall;go_wp2;go_ret;exact⟨ret_bool (by rw[HE.out,decide_eq_true HL.out,HALL.out];rfl),u.trans hup⟩
 ·have HL:=qh hl
  have e1:((q.l.length:Int)==(s.l.length:Int))=false:=by simp;omega
  have e2:((q.l.length:Int) != (s.l.length:Int))=true:=by simp;omega
  have e3:(q.l.length==s.l.length)=false:=by simp;omega
  have e4:(q.l.length != s.l.length)=true:=by simp;omega
  clear hl;go_wp2_with first|(go_at_call 93;refine(K1.out _ u).mono ?_;rintro e wn ⟨rfl,v⟩;replace u:=u.trans v;replace hB:=hB.up v;clear v;obtain⟨x0,x1,x2,x3,x4,x5,x6,x7,x8,x9,x10,x11,x12⟩:=hB.c13)|(go_at_call 94;refine(K2.out _ u).mono ?_;rintro e wn ⟨rfl,v⟩;replace u:=u.trans v;replace hB:=hB.up v;clear v;obtain⟨x0,x1,x2,x3,x4,x5,x6,x7,x8,x9,x10,x11,x12⟩:=hB.c13)
  go_ret;exact⟨ret_bool (by rw[HE.out,decide_eq_false HL.out];rfl),u⟩
theorem phClosure_any(p:Sl ByteArray)(lo hi:Nat)(w:World)(h:SrSt w lo hi p) :
 Calls Tryz.prog 113 #[.slice p.A p.l.length p.c] w fun e w'=>e=.returned (.bool (!phB p.l))∧Up w w':=by
 have H:=qh (isPhrase_any p.A p.l p.c lo hi w h.rd h.hhi h.ok h.len)
 clear h;go_enter Tryz.func113,Tryz.ntmps113
 go_wp2_with (go_at_call 114;refine H.out.mono ?_;rintro e w' ⟨rfl,hup⟩)
 go_ret;exact⟨rfl,hup⟩
theorem phs_any(q:List (Sl ByteArray)):(!(q.any fun p=>!phB p.l))=phsB q:=by
 rw[Bool.eq_iff_iff];simp
theorem implIsEvidence_any(x:Wd)(s:Sl Dd)(g:Sl Fm)(q:Sl (Sl ByteArray))(lo hi:Nat)(w:World)(h:RdW w lo hi x)(h2:RdDd w lo hi s)(h3:SrF w lo hi g)(h4:SrPh w lo hi q) :
 Calls Tryz.prog 63 #[.agg #[.slice x.rs.A x.rs.l.length x.rs.c,.int .i64 x.fr,.int .i64 x.to_,.slice x.ps.A x.ps.l.length x.ps.c,.slice x.ts.A x.ts.l.length x.ts.c,.slice x.pl.A x.pl.l.length x.pl.c,.slice x.ws.A x.ws.l.length x.ws.c,.slice x.st.A x.st.l.length x.st.c,.slice x.se.A x.se.l.length x.se.c,.slice x.ha.A x.ha.l.length x.ha.c,.slice s.A s.l.length s.c,.slice g.A g.l.length g.c,.slice q.A q.l.length q.c]] w fun e w'=>e=.returned (.bool (evB x.p (s.l.map Dd.p) g.l q.l))∧Up w w':=by
 have hsl:=h2.len
 have hql:=h4.len
 obtain⟨b1,hb1⟩:∃z,z=dsB x.p (s.l.map Dd.p):=⟨_,rfl⟩
 obtain⟨b2,hb2⟩:∃z,z=afB g.l:=⟨_,rfl⟩
 have c1:=fun wx (u:Up w wx)=>implAreDeeds_any x s lo hi wx (h.up u) (h2.up u)
 have c2:=fun wx (u:Up w wx)=>implAreFormulas_any g.A g.l g.c lo hi wx ((h3.up u).rd) ((h3.up u).hhi) h3.ok h3.ws h3.len
 simp only[← hb1]at c1
 simp only[← hb2]at c2
 have HE:=qh (show evB x.p (s.l.map Dd.p) g.l q.l=(b1 && (b2 && (decide (q.l.length=s.l.length) && phsB q.l))) by unfold evB;rw[hb1,hb2,List.length_map])
 have K1:=qh c1
 have K2:=qh c2
 have K3:=qh (fun wx (u:Up w wx)=>containsFuncPh_any q.A q.l q.c lo hi 113 #[] (fun p=>!phB p.l) wx ((h4.up u).rd) ((h4.up u).hhi) h4.len (fun _ _=>rfl) (fun d hd w1 hu1=>phClosure_any d lo hi w1 (((h4.up u).each d hd).up hu1)))
 have H4:=qh h4
 clear hb1 hb2 c1 c2 h h2 h3 h4;have u:=Up.alloc w (.cells #[.slice x.rs.A x.rs.l.length x.rs.c,.int .i64 x.fr,.int .i64 x.to_,.slice x.ps.A x.ps.l.length x.ps.c,.slice x.ts.A x.ts.l.length x.ts.c,.slice x.pl.A x.pl.l.length x.pl.c,.slice x.ws.A x.ws.l.length x.ws.c,.slice x.st.A x.st.l.length x.st.c,.slice x.se.A x.se.l.length x.se.c,.slice x.ha.A x.ha.l.length x.ha.c,.slice s.A s.l.length s.c,.slice g.A g.l.length g.c,.slice q.A q.l.length q.c] 63)
 have hB:=Bx.new w #[.slice x.rs.A x.rs.l.length x.rs.c,.int .i64 x.fr,.int .i64 x.to_,.slice x.ps.A x.ps.l.length x.ps.c,.slice x.ts.A x.ts.l.length x.ts.c,.slice x.pl.A x.pl.l.length x.pl.c,.slice x.ws.A x.ws.l.length x.ws.c,.slice x.st.A x.st.l.length x.st.c,.slice x.se.A x.se.l.length x.se.c,.slice x.ha.A x.ha.l.length x.ha.c,.slice s.A s.l.length s.c,.slice g.A g.l.length g.c,.slice q.A q.l.length q.c] 63
 go_enter Tryz.func63,Tryz.ntmps63
 go_wp2_with fail
 generalize w.alloc (.cells #[.slice x.rs.A x.rs.l.length x.rs.c,.int .i64 x.fr,.int .i64 x.to_,.slice x.ps.A x.ps.l.length x.ps.c,.slice x.ts.A x.ts.l.length x.ts.c,.slice x.pl.A x.pl.l.length x.pl.c,.slice x.ws.A x.ws.l.length x.ws.c,.slice x.st.A x.st.l.length x.st.c,.slice x.se.A x.se.l.length x.se.c,.slice x.ha.A x.ha.l.length x.ha.c,.slice s.A s.l.length s.c,.slice g.A g.l.length g.c,.slice q.A q.l.length q.c] 63)=W1 at *
 obtain⟨x0,x1,x2,x3,x4,x5,x6,x7,x8,x9,x10,x11,x12⟩:=hB.c13
 rcases b1 with _|_
 ·go_wp2_with first|(go_at_call 110;refine(K1.out _ u).mono ?_;rintro e wn ⟨rfl,v⟩;replace u:=u.trans v;replace hB:=hB.up v;clear v;obtain⟨x0,x1,x2,x3,x4,x5,x6,x7,x8,x9,x10,x11,x12⟩:=hB.c13)|(go_at_call 111;refine(K2.out _ u).mono ?_;rintro e wn ⟨rfl,v⟩;replace u:=u.trans v;replace hB:=hB.up v;clear v;obtain⟨x0,x1,x2,x3,x4,x5,x6,x7,x8,x9,x10,x11,x12⟩:=hB.c13)|(go_at_call 112;refine(K3.out _ u).mono ?_;rintro e wn ⟨rfl,v⟩;replace u:=u.trans v;clear v)
  go_ret;exact⟨ret_bool (by rw[HE.out];rfl),u⟩
 rcases b2 with _|_
 ·go_wp2_with first|(go_at_call 110;refine(K1.out _ u).mono ?_;rintro e wn ⟨rfl,v⟩;replace u:=u.trans v;replace hB:=hB.up v;clear v;obtain⟨x0,x1,x2,x3,x4,x5,x6,x7,x8,x9,x10,x11,x12⟩:=hB.c13)|(go_at_call 111;refine(K2.out _ u).mono ?_;rintro e wn ⟨rfl,v⟩;replace u:=u.trans v;replace hB:=hB.up v;clear v;obtain⟨x0,x1,x2,x3,x4,x5,x6,x7,x8,x9,x10,x11,x12⟩:=hB.c13)|(go_at_call 112;refine(K3.out _ u).mono ?_;rintro e wn ⟨rfl,v⟩;replace u:=u.trans v;clear v)
  go_ret;exact⟨ret_bool (by rw[HE.out];rfl),u⟩
 by_cases hl:q.l.length=s.l.length
 ·have HL:=qh hl
  have e1:((q.l.length:Int)==(s.l.length:Int))=true:=by simp[hl]
  have e2:((q.l.length:Int) != (s.l.length:Int))=false:=by simp[hl]
  have e3:(q.l.length==s.l.length)=true:=by simp[hl]
  have e4:(q.l.length != s.l.length)=false:=by simp[hl]
  clear hl;go_wp2_with first|(go_at_call 110;refine(K1.out _ u).mono ?_;rintro e wn ⟨rfl,v⟩;replace u:=u.trans v;replace hB:=hB.up v;clear v;obtain⟨x0,x1,x2,x3,x4,x5,x6,x7,x8,x9,x10,x11,x12⟩:=hB.c13)|(go_at_call 111;refine(K2.out _ u).mono ?_;rintro e wn ⟨rfl,v⟩;replace u:=u.trans v;replace hB:=hB.up v;clear v;obtain⟨x0,x1,x2,x3,x4,x5,x6,x7,x8,x9,x10,x11,x12⟩:=hB.c13)|(go_at_call 112;refine(K3.out _ u).mono ?_;rintro e wn ⟨rfl,v⟩;replace u:=u.trans v;clear v)
  go_ret;exact⟨ret_bool (by rw[HE.out,decide_eq_true HL.out,← phs_any];rfl),u⟩
 ·have HL:=qh hl
  have e1:((q.l.length:Int)==(s.l.length:Int))=false:=by simp;omega
  have e2:((q.l.length:Int) != (s.l.length:Int))=true:=by simp;omega
  have e3:(q.l.length==s.l.length)=false:=by simp;omega
  have e4:(q.l.length != s.l.length)=true:=by simp;omega
  clear hl;go_wp2_with first|(go_at_call 110;refine(K1.out _ u).mono ?_;rintro e wn ⟨rfl,v⟩;replace u:=u.trans v;replace hB:=hB.up v;clear v;obtain⟨x0,x1,x2,x3,x4,x5,x6,x7,x8,x9,x10,x11,x12⟩:=hB.c13)|(go_at_call 111;refine(K2.out _ u).mono ?_;rintro e wn ⟨rfl,v⟩;replace u:=u.trans v;replace hB:=hB.up v;clear v;obtain⟨x0,x1,x2,x3,x4,x5,x6,x7,x8,x9,x10,x11,x12⟩:=hB.c13)|(go_at_call 112;refine(K3.out _ u).mono ?_;rintro e wn ⟨rfl,v⟩;replace u:=u.trans v;clear v)
  go_ret;exact⟨ret_bool (by rw[HE.out,decide_eq_false HL.out];rfl),u⟩
theorem afB_same{L l:List Fm}(h:L.map Fm.p=l.map Fm.p):afB L=afB l:=by
 have h1:L.length=l.length:=by simpa using congrArg List.length h
 have h2:(L.any fun x=>!fmB x.p)=l.any fun x=>!fmB x.p:=by
  have:=congrArg (fun m=>m.any fun p=>!fmB p) h
  simpa[List.any_map,Function.comp_def] using this
 unfold afB;rw[h1,h2]
end Go.Proofs.YtihcmhmanfobcaaGreatDoor
