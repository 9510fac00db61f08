/- The law package's helpers over evidence: sizes and equality. -/
import Derived.Test.YtihcmhmanfobcaaGreatDoorVl
import Derived.Test.YtihcmhmanfobcaaGreatDoorVa
import Derived.Test.YtihcmhmanfobcaaGreatDoorLib
set_option maxHeartbeats 2000000
set_option maxRecDepth 100000
namespace Go.Proofs.YtihcmhmanfobcaaGreatDoor
open Go.RowKit Go.Sort
def nL{α:Type}(f:α→Int):List α→Int
 | []=>0
 | x :: l=>f x+nL f l
theorem nL_app{α:Type}(f:α→Int):∀(l m:List α),nL f (l++m)=nL f l+nL f m
 | [],m=>by simp[nL]
 | x :: l,m=>by simp only[List.cons_append,nL,nL_app f l m];omega
theorem nL_take{α:Type}{f:α→Int}{l:List α}{k:Nat}{x:α}(h:l[k]?=some x):nL f (l.take (k+1))=nL f (l.take k)+f x:=by
 rw[List.take_succ_eq_append_getElem (List.getElem?_eq_some_iff.1 h).1,(List.getElem?_eq_some_iff.1 h).2,nL_app];simp[nL]
theorem nL_nn{α:Type}{f:α→Int}(h:∀x,0≤f x):∀l:List α,0≤nL f l
 | []=>Int.le_refl _
 | x :: l=>by have:=nL_nn h l;have:=h x;simp only[nL];omega
theorem nL_mem{α:Type}{f:α→Int}(h:∀x,0≤f x):∀(l:List α) (x:α),x∈l→f x≤nL f l
 | [],_,hx=>by cases hx
 | y :: l,x,hx=>by
   have:=nL_nn h l
   have:=h y
   simp only[nL]
   rcases List.mem_cons.1 hx with rfl|hx
   ·omega
   ·have:=nL_mem h l x hx;omega
def nD(d:Dd):Int:=(d.da.l.length:Int)+d.wi.l.length+d.ci.l.length
def nDs(l:List Dd):Int:=(l.length:Int)+nL nD l
def nF(x:Fm):Int:=x.ws.length
def nFs(l:List Fm):Int:=(l.length:Int)+nL nF l
def nP(x:Sl ByteArray):Int:=x.l.length
def nPs(l:List (Sl ByteArray)):Int:=(l.length:Int)+nL nP l
def nEv(x:Wd)(s:Sl Dd)(g:Sl Fm)(q:Sl (Sl ByteArray)):Int:=nW x+nDs s.l+nFs g.l+nPs q.l
theorem szFs_n:∀(l:List Fm) (z:Int),0≤z→¬ szFs l z<0→szFs l z+nL nF l≤z
 | [],z,_,_=>by simp[szFs,nL]
 | d :: l,z,h0,h=>by
   simp only[szFs]at h ⊢
   by_cases hd:szSL d.ws z<0
   ·rw[if_pos hd]at h;exact absurd (by omega) h
   ·rw[if_neg hd]at h ⊢
    have h2:=szSL_len2 h0 hd
    have h3:=szFs_n l _ (by omega) h
    show szFs l (szSL d.ws z)+((d.ws.length:Int)+nL nF l)≤z
    omega
theorem szFL_n{l:List Fm}{z:Int}(_h0:0≤z)(h:¬ szFL l z<0):szFL l z+nFs l≤z:=by
 by_cases c1:z<l.length
 ·rw[szFL_a c1]at h;exact absurd (by omega) h
 ·rw[szFL_b c1]at h ⊢
  have h1:=szFs_n l (z-l.length) (by omega) h
  unfold nFs;omega
theorem eqStringS_same(A B:Option Addr)(l:List ByteArray)(c c' lo hi lo' hi':Nat)(w:World)(hr:RdT w lo hi A l)(hhi:hi≤w.heap.size)(hr':RdT w lo' hi' B l)(hhi':hi'≤w.heap.size)(hn:l.length≤2000000) :
 Calls Tryz.prog 76 #[.slice A l.length c,.slice B l.length c'] w fun e w'=>e=.returned (.bool true)∧Up w w' :=
 (eqStringS_any A B l l c c' lo hi lo' hi' w hr hhi hr' hhi' hn).mono fun e w' ⟨h1,h2⟩=>⟨by rw[h1,eqSs_self],h2⟩
theorem eqChancery_same(s:Sl Nm)(A':Option Addr)(c':Nat)(fr to_:Int)(lo hi lo' hi':Nat)(w:World)(h:SrNm w lo hi s)(h2:SrNm w lo' hi' ⟨A',c',s.l⟩) :
 Calls Tryz.prog 69 #[.agg #[.slice s.A s.l.length s.c,.int .i64 fr,.int .i64 to_],.agg #[.slice A' s.l.length c',.int .i64 fr,.int .i64 to_]] w fun e w'=>e=.returned (.bool true)∧Up w w':=by
 have hss:∀s:ByteArray,(s.toList==s.toList)=true:=fun s=>by simp
 have hii:∀i:Int,(i != i)=false:=fun s=>by simp
 have u:Up w ((w.alloc (.cells #[.slice s.A s.l.length s.c,.int .i64 fr,.int .i64 to_] 48)).alloc (.cells #[.slice A' s.l.length c',.int .i64 fr,.int .i64 to_] 48)):=(Up.alloc w _).allocs _
 have hX:=(Bx.new w #[.slice s.A s.l.length s.c,.int .i64 fr,.int .i64 to_] 48).up (Up.alloc _ (.cells #[.slice A' s.l.length c',.int .i64 fr,.int .i64 to_] 48))
 have hY:Bx ((w.alloc (.cells #[.slice s.A s.l.length s.c,.int .i64 fr,.int .i64 to_] 48)).alloc (.cells #[.slice A' s.l.length c',.int .i64 fr,.int .i64 to_] 48)) (w.heap.size+1) [.slice A' s.l.length c',.int .i64 fr,.int .i64 to_]:=by
  have:=Bx.new (w.alloc (.cells #[.slice s.A s.l.length s.c,.int .i64 fr,.int .i64 to_] 48)) #[.slice A' s.l.length c',.int .i64 fr,.int .i64 to_] 48
  simpa using this
 go_enter Tryz.func69,Tryz.ntmps69
 go_wp2_with fail
 generalize (w.alloc (.cells #[.slice s.A s.l.length s.c,.int .i64 fr,.int .i64 to_] 48)).alloc (.cells #[.slice A' s.l.length c',.int .i64 fr,.int .i64 to_] 48)=w0 at *
 refine(eqReignS_same s.A A' s.l s.c c' lo hi lo' hi' _ (h.rd.up u h.hhi) (Nat.le_trans h.hhi u.size) (h2.rd.up u h2.hhi) (Nat.le_trans h2.hhi u.size) h.len).mono ?_
 rintro e w1 ⟨rfl,v⟩
 replace u:=u.trans v;replace hX:=hX.up v;replace hY:=hY.up v;clear v;obtain⟨x0,x1,x2⟩:=hX.c3
 obtain⟨y0,y1,y2⟩:=hY.c3
 go_wp2
 all_goals first|(exfalso;simp_all;done)|(go_ret;exact⟨rfl,u⟩)
theorem eqPeople_same(s:Sl Nm)(A':Option Addr)(c':Nat)(t:Sl Tm)(B':Option Addr)(d':Nat)(lo hi lo' hi':Nat)(w:World)(h:SrNm w lo hi s)(h2:SrNm w lo' hi' ⟨A',c',s.l⟩)(k:SrTm w lo hi t)(k2:SrTm w lo' hi' ⟨B',d',t.l⟩) :
 Calls Tryz.prog 70 #[.agg #[.slice s.A s.l.length s.c,.slice t.A t.l.length t.c],.agg #[.slice A' s.l.length c',.slice B' t.l.length d']] w fun e w'=>e=.returned (.bool true)∧Up w w':=by
 have hss:∀s:ByteArray,(s.toList==s.toList)=true:=fun s=>by simp
 have hii:∀i:Int,(i != i)=false:=fun s=>by simp
 have u:Up w ((w.alloc (.cells #[.slice s.A s.l.length s.c,.slice t.A t.l.length t.c] 52)).alloc (.cells #[.slice A' s.l.length c',.slice B' t.l.length d'] 52)):=(Up.alloc w _).allocs _
 have hX:=(Bx.new w #[.slice s.A s.l.length s.c,.slice t.A t.l.length t.c] 52).up (Up.alloc _ (.cells #[.slice A' s.l.length c',.slice B' t.l.length d'] 52))
 have hY:Bx ((w.alloc (.cells #[.slice s.A s.l.length s.c,.slice t.A t.l.length t.c] 52)).alloc (.cells #[.slice A' s.l.length c',.slice B' t.l.length d'] 52)) (w.heap.size+1) [.slice A' s.l.length c',.slice B' t.l.length d']:=by
  have:=Bx.new (w.alloc (.cells #[.slice s.A s.l.length s.c,.slice t.A t.l.length t.c] 52)) #[.slice A' s.l.length c',.slice B' t.l.length d'] 52
  simpa using this
 go_enter Tryz.func70,Tryz.ntmps70
 go_wp2_with fail
 generalize (w.alloc (.cells #[.slice s.A s.l.length s.c,.slice t.A t.l.length t.c] 52)).alloc (.cells #[.slice A' s.l.length c',.slice B' t.l.length d'] 52)=w0 at *
 refine(eqPersonS_same s.A A' s.l s.c c' lo hi lo' hi' _ (h.rd.up u h.hhi) (Nat.le_trans h.hhi u.size) (h2.rd.up u h2.hhi) (Nat.le_trans h2.hhi u.size) h.len).mono ?_
 rintro e w1 ⟨rfl,v⟩
 replace u:=u.trans v;replace hX:=hX.up v;replace hY:=hY.up v;clear v;obtain⟨x0,x1⟩:=hX.c2
 obtain⟨y0,y1⟩:=hY.c2
 go_wp2_with fail
 refine(eqTermS_same t.A B' t.l t.c d' lo hi lo' hi' _ (k.rd.up u k.hhi) (Nat.le_trans k.hhi u.size) (k2.rd.up u k2.hhi) (Nat.le_trans k2.hhi u.size) k.len).mono ?_
 rintro e w2 ⟨rfl,v⟩
 replace u:=u.trans v;replace hX:=hX.up v;replace hY:=hY.up v;clear v;obtain⟨x0,x1⟩:=hX.c2
 obtain⟨y0,y1⟩:=hY.c2
 go_wp2
 all_goals first|(exfalso;simp_all;done)|(go_ret;exact⟨rfl,u⟩)
theorem eqLand_same(s:Sl ByteArray)(A':Option Addr)(c':Nat)(t:Sl I3)(B':Option Addr)(d':Nat)(lo hi lo' hi':Nat)(w:World)(h:SrSt w lo hi s)(h2:SrSt w lo' hi' ⟨A',c',s.l⟩)(k:SrI3 w lo hi t)(k2:SrI3 w lo' hi' ⟨B',d',t.l⟩) :
 Calls Tryz.prog 71 #[.agg #[.slice s.A s.l.length s.c,.slice t.A t.l.length t.c],.agg #[.slice A' s.l.length c',.slice B' t.l.length d']] w fun e w'=>e=.returned (.bool true)∧Up w w':=by
 have hss:∀s:ByteArray,(s.toList==s.toList)=true:=fun s=>by simp
 have hii:∀i:Int,(i != i)=false:=fun s=>by simp
 have u:Up w ((w.alloc (.cells #[.slice s.A s.l.length s.c,.slice t.A t.l.length t.c] 55)).alloc (.cells #[.slice A' s.l.length c',.slice B' t.l.length d'] 55)):=(Up.alloc w _).allocs _
 have hX:=(Bx.new w #[.slice s.A s.l.length s.c,.slice t.A t.l.length t.c] 55).up (Up.alloc _ (.cells #[.slice A' s.l.length c',.slice B' t.l.length d'] 55))
 have hY:Bx ((w.alloc (.cells #[.slice s.A s.l.length s.c,.slice t.A t.l.length t.c] 55)).alloc (.cells #[.slice A' s.l.length c',.slice B' t.l.length d'] 55)) (w.heap.size+1) [.slice A' s.l.length c',.slice B' t.l.length d']:=by
  have:=Bx.new (w.alloc (.cells #[.slice s.A s.l.length s.c,.slice t.A t.l.length t.c] 55)) #[.slice A' s.l.length c',.slice B' t.l.length d'] 55
  simpa using this
 go_enter Tryz.func71,Tryz.ntmps71
 go_wp2_with fail
 generalize (w.alloc (.cells #[.slice s.A s.l.length s.c,.slice t.A t.l.length t.c] 55)).alloc (.cells #[.slice A' s.l.length c',.slice B' t.l.length d'] 55)=w0 at *
 refine(eqStringS_same s.A A' s.l s.c c' lo hi lo' hi' _ (h.rd.up u h.hhi) (Nat.le_trans h.hhi u.size) (h2.rd.up u h2.hhi) (Nat.le_trans h2.hhi u.size) h.len).mono ?_
 rintro e w1 ⟨rfl,v⟩
 replace u:=u.trans v;replace hX:=hX.up v;replace hY:=hY.up v;clear v;obtain⟨x0,x1⟩:=hX.c2
 obtain⟨y0,y1⟩:=hY.c2
 go_wp2_with fail
 refine(eqWayS_same t.A B' t.l t.c d' lo hi lo' hi' _ (k.rd.up u k.hhi) (Nat.le_trans k.hhi u.size) (k2.rd.up u k2.hhi) (Nat.le_trans k2.hhi u.size) k.len).mono ?_
 rintro e w2 ⟨rfl,v⟩
 replace u:=u.trans v;replace hX:=hX.up v;replace hY:=hY.up v;clear v;obtain⟨x0,x1⟩:=hX.c2
 obtain⟨y0,y1⟩:=hY.c2
 go_wp2
 all_goals first|(exfalso;simp_all;done)|(go_ret;exact⟨rfl,u⟩)
theorem eqWorld_same(x:Wd)(A_rs:Option Addr)(c_rs:Nat)(A_ps:Option Addr)(c_ps:Nat)(A_ts:Option Addr)(c_ts:Nat)(A_pl:Option Addr)(c_pl:Nat)(A_ws:Option Addr)(c_ws:Nat)(A_st:Option Addr)(c_st:Nat)(A_se:Option Addr)(c_se:Nat)(A_ha:Option Addr)(c_ha:Nat)(lo hi lo' hi':Nat)(w:World)(h:RdW w lo hi x)(h2:RdW w lo' hi' ⟨⟨A_rs,c_rs,x.rs.l⟩,x.fr,x.to_,⟨A_ps,c_ps,x.ps.l⟩,⟨A_ts,c_ts,x.ts.l⟩,⟨A_pl,c_pl,x.pl.l⟩,⟨A_ws,c_ws,x.ws.l⟩,⟨A_st,c_st,x.st.l⟩,⟨A_se,c_se,x.se.l⟩,⟨A_ha,c_ha,x.ha.l⟩⟩) :
 Calls Tryz.prog 32 #[.agg #[.slice x.rs.A x.rs.l.length x.rs.c,.int .i64 x.fr,.int .i64 x.to_,.slice x.ps.A x.ps.l.length x.ps.c,.slice x.ts.A x.ts.l.length x.ts.c,.slice x.pl.A x.pl.l.length x.pl.c,.slice x.ws.A x.ws.l.length x.ws.c,.slice x.st.A x.st.l.length x.st.c,.slice x.se.A x.se.l.length x.se.c,.slice x.ha.A x.ha.l.length x.ha.c],.agg #[.slice A_rs x.rs.l.length c_rs,.int .i64 x.fr,.int .i64 x.to_,.slice A_ps x.ps.l.length c_ps,.slice A_ts x.ts.l.length c_ts,.slice A_pl x.pl.l.length c_pl,.slice A_ws x.ws.l.length c_ws,.slice A_st x.st.l.length c_st,.slice A_se x.se.l.length c_se,.slice A_ha x.ha.l.length c_ha]] w fun e w'=>e=.returned (.bool true)∧Up w w':=by
 have hss:∀s:ByteArray,(s.toList==s.toList)=true:=fun s=>by simp
 have hii:∀i:Int,(i != i)=false:=fun s=>by simp
 have u:Up w ((w.alloc (.cells #[.slice x.rs.A x.rs.l.length x.rs.c,.int .i64 x.fr,.int .i64 x.to_,.slice x.ps.A x.ps.l.length x.ps.c,.slice x.ts.A x.ts.l.length x.ts.c,.slice x.pl.A x.pl.l.length x.pl.c,.slice x.ws.A x.ws.l.length x.ws.c,.slice x.st.A x.st.l.length x.st.c,.slice x.se.A x.se.l.length x.se.c,.slice x.ha.A x.ha.l.length x.ha.c] 59)).alloc (.cells #[.slice A_rs x.rs.l.length c_rs,.int .i64 x.fr,.int .i64 x.to_,.slice A_ps x.ps.l.length c_ps,.slice A_ts x.ts.l.length c_ts,.slice A_pl x.pl.l.length c_pl,.slice A_ws x.ws.l.length c_ws,.slice A_st x.st.l.length c_st,.slice A_se x.se.l.length c_se,.slice A_ha x.ha.l.length c_ha] 59)):=(Up.alloc w _).allocs _
 have hX:=(Bx.new w #[.slice x.rs.A x.rs.l.length x.rs.c,.int .i64 x.fr,.int .i64 x.to_,.slice x.ps.A x.ps.l.length x.ps.c,.slice x.ts.A x.ts.l.length x.ts.c,.slice x.pl.A x.pl.l.length x.pl.c,.slice x.ws.A x.ws.l.length x.ws.c,.slice x.st.A x.st.l.length x.st.c,.slice x.se.A x.se.l.length x.se.c,.slice x.ha.A x.ha.l.length x.ha.c] 59).up (Up.alloc _ (.cells #[.slice A_rs x.rs.l.length c_rs,.int .i64 x.fr,.int .i64 x.to_,.slice A_ps x.ps.l.length c_ps,.slice A_ts x.ts.l.length c_ts,.slice A_pl x.pl.l.length c_pl,.slice A_ws x.ws.l.length c_ws,.slice A_st x.st.l.length c_st,.slice A_se x.se.l.length c_se,.slice A_ha x.ha.l.length c_ha] 59))
 have hY:Bx ((w.alloc (.cells #[.slice x.rs.A x.rs.l.length x.rs.c,.int .i64 x.fr,.int .i64 x.to_,.slice x.ps.A x.ps.l.length x.ps.c,.slice x.ts.A x.ts.l.length x.ts.c,.slice x.pl.A x.pl.l.length x.pl.c,.slice x.ws.A x.ws.l.length x.ws.c,.slice x.st.A x.st.l.length x.st.c,.slice x.se.A x.se.l.length x.se.c,.slice x.ha.A x.ha.l.length x.ha.c] 59)).alloc (.cells #[.slice A_rs x.rs.l.length c_rs,.int .i64 x.fr,.int .i64 x.to_,.slice A_ps x.ps.l.length c_ps,.slice A_ts x.ts.l.length c_ts,.slice A_pl x.pl.l.length c_pl,.slice A_ws x.ws.l.length c_ws,.slice A_st x.st.l.length c_st,.slice A_se x.se.l.length c_se,.slice A_ha x.ha.l.length c_ha] 59)) (w.heap.size+1) [.slice A_rs x.rs.l.length c_rs,.int .i64 x.fr,.int .i64 x.to_,.slice A_ps x.ps.l.length c_ps,.slice A_ts x.ts.l.length c_ts,.slice A_pl x.pl.l.length c_pl,.slice A_ws x.ws.l.length c_ws,.slice A_st x.st.l.length c_st,.slice A_se x.se.l.length c_se,.slice A_ha x.ha.l.length c_ha]:=by
  have:=Bx.new (w.alloc (.cells #[.slice x.rs.A x.rs.l.length x.rs.c,.int .i64 x.fr,.int .i64 x.to_,.slice x.ps.A x.ps.l.length x.ps.c,.slice x.ts.A x.ts.l.length x.ts.c,.slice x.pl.A x.pl.l.length x.pl.c,.slice x.ws.A x.ws.l.length x.ws.c,.slice x.st.A x.st.l.length x.st.c,.slice x.se.A x.se.l.length x.se.c,.slice x.ha.A x.ha.l.length x.ha.c] 59)) #[.slice A_rs x.rs.l.length c_rs,.int .i64 x.fr,.int .i64 x.to_,.slice A_ps x.ps.l.length c_ps,.slice A_ts x.ts.l.length c_ts,.slice A_pl x.pl.l.length c_pl,.slice A_ws x.ws.l.length c_ws,.slice A_st x.st.l.length c_st,.slice A_se x.se.l.length c_se,.slice A_ha x.ha.l.length c_ha] 59
  simpa using this
 go_enter Tryz.func32,Tryz.ntmps32
 go_wp2_with fail
 generalize (w.alloc (.cells #[.slice x.rs.A x.rs.l.length x.rs.c,.int .i64 x.fr,.int .i64 x.to_,.slice x.ps.A x.ps.l.length x.ps.c,.slice x.ts.A x.ts.l.length x.ts.c,.slice x.pl.A x.pl.l.length x.pl.c,.slice x.ws.A x.ws.l.length x.ws.c,.slice x.st.A x.st.l.length x.st.c,.slice x.se.A x.se.l.length x.se.c,.slice x.ha.A x.ha.l.length x.ha.c] 59)).alloc (.cells #[.slice A_rs x.rs.l.length c_rs,.int .i64 x.fr,.int .i64 x.to_,.slice A_ps x.ps.l.length c_ps,.slice A_ts x.ts.l.length c_ts,.slice A_pl x.pl.l.length c_pl,.slice A_ws x.ws.l.length c_ws,.slice A_st x.st.l.length c_st,.slice A_se x.se.l.length c_se,.slice A_ha x.ha.l.length c_ha] 59)=w0 at *
 refine(eqChancery_same x.rs A_rs c_rs x.fr x.to_ lo hi lo' hi' _ (h.rs.up u) (h2.rs.up u)).mono ?_
 rintro e w1 ⟨rfl,v⟩
 replace u:=u.trans v;replace hX:=hX.up v;replace hY:=hY.up v;clear v;obtain⟨x0,x1,x2,x3,x4,x5,x6,x7,x8,x9⟩:=hX.c10
 obtain⟨y0,y1,y2,y3,y4,y5,y6,y7,y8,y9⟩:=hY.c10
 go_wp2_with fail
 refine(eqPeople_same x.ps A_ps c_ps x.ts A_ts c_ts lo hi lo' hi' _ (h.ps.up u) (h2.ps.up u) (h.ts.up u) (h2.ts.up u)).mono ?_
 rintro e w2 ⟨rfl,v⟩
 replace u:=u.trans v;replace hX:=hX.up v;replace hY:=hY.up v;clear v;obtain⟨x0,x1,x2,x3,x4,x5,x6,x7,x8,x9⟩:=hX.c10
 obtain⟨y0,y1,y2,y3,y4,y5,y6,y7,y8,y9⟩:=hY.c10
 go_wp2_with fail
 refine(eqLand_same x.pl A_pl c_pl x.ws A_ws c_ws lo hi lo' hi' _ (h.pl.up u) (h2.pl.up u) (h.ws.up u) (h2.ws.up u)).mono ?_
 rintro e w3 ⟨rfl,v⟩
 replace u:=u.trans v;replace hX:=hX.up v;replace hY:=hY.up v;clear v;obtain⟨x0,x1,x2,x3,x4,x5,x6,x7,x8,x9⟩:=hX.c10
 obtain⟨y0,y1,y2,y3,y4,y5,y6,y7,y8,y9⟩:=hY.c10
 go_wp2_with fail
 refine(eqStayS_same x.st.A A_st x.st.l x.st.c c_st lo hi lo' hi' _ (h.st.rd.up u h.st.hhi) (Nat.le_trans h.st.hhi u.size) (h2.st.rd.up u h2.st.hhi) (Nat.le_trans h2.st.hhi u.size) h.st.len).mono ?_
 rintro e w4 ⟨rfl,v⟩
 replace u:=u.trans v;replace hX:=hX.up v;replace hY:=hY.up v;clear v;obtain⟨x0,x1,x2,x3,x4,x5,x6,x7,x8,x9⟩:=hX.c10
 obtain⟨y0,y1,y2,y3,y4,y5,y6,y7,y8,y9⟩:=hY.c10
 go_wp2_with fail
 refine(eqMarkS_same x.se.A A_se x.se.l x.se.c c_se lo hi lo' hi' _ (h.se.rd.up u h.se.hhi) (Nat.le_trans h.se.hhi u.size) (h2.se.rd.up u h2.se.hhi) (Nat.le_trans h2.se.hhi u.size) h.se.len).mono ?_
 rintro e w5 ⟨rfl,v⟩
 replace u:=u.trans v;replace hX:=hX.up v;replace hY:=hY.up v;clear v;obtain⟨x0,x1,x2,x3,x4,x5,x6,x7,x8,x9⟩:=hX.c10
 obtain⟨y0,y1,y2,y3,y4,y5,y6,y7,y8,y9⟩:=hY.c10
 go_wp2_with fail
 refine(eqMarkS_same x.ha.A A_ha x.ha.l x.ha.c c_ha lo hi lo' hi' _ (h.ha.rd.up u h.ha.hhi) (Nat.le_trans h.ha.hhi u.size) (h2.ha.rd.up u h2.ha.hhi) (Nat.le_trans h2.ha.hhi u.size) h.ha.len).mono ?_
 rintro e w6 ⟨rfl,v⟩
 replace u:=u.trans v;replace hX:=hX.up v;replace hY:=hY.up v;clear v;obtain⟨x0,x1,x2,x3,x4,x5,x6,x7,x8,x9⟩:=hX.c10
 obtain⟨y0,y1,y2,y3,y4,y5,y6,y7,y8,y9⟩:=hY.c10
 go_wp2
 all_goals first|(exfalso;simp_all;done)|(go_ret;exact⟨rfl,u⟩)
theorem eqWorld_p(x y:Wd)(lo hi lo' hi':Nat)(w:World)(h:RdW w lo hi x)(h2:RdW w lo' hi' y)(e:y.p=x.p) :
 Calls Tryz.prog 32 #[x.val,y.val] w fun e w'=>e=.returned (.bool true)∧Up w w':=by
 obtain⟨⟨A_rs,c_rs,l_rs⟩,fr,to_,⟨A_ps,c_ps,l_ps⟩,⟨A_ts,c_ts,l_ts⟩,⟨A_pl,c_pl,l_pl⟩,⟨A_ws,c_ws,l_ws⟩,⟨A_st,c_st,l_st⟩,⟨A_se,c_se,l_se⟩,⟨A_ha,c_ha,l_ha⟩⟩:=y
 simp only[Wd.p,Pw.mk.injEq]at e
 obtain⟨rfl,rfl,rfl,rfl,rfl,rfl,rfl,rfl,rfl,rfl⟩:=e
 exact eqWorld_same x A_rs c_rs A_ps c_ps A_ts c_ts A_pl c_pl A_ws c_ws A_st c_st A_se c_se A_ha c_ha lo hi lo' hi' w h h2
theorem eqDeed_same(x:Dd)(A_da:Option Addr)(c_da:Nat)(A_wi:Option Addr)(c_wi:Nat)(A_ci:Option Addr)(c_ci:Nat)(lo hi lo' hi':Nat)(w:World)(h:RdE w lo hi x)(h2:RdE w lo' hi' ⟨x.nm,⟨A_da,c_da,x.da.l⟩,⟨A_wi,c_wi,x.wi.l⟩,x.pl,x.se,x.ha,⟨A_ci,c_ci,x.ci.l⟩⟩) :
 Calls Tryz.prog 74 #[.agg #[.string x.nm,.slice x.da.A x.da.l.length x.da.c,.slice x.wi.A x.wi.l.length x.wi.c,.string x.pl,.string x.se,.string x.ha,.slice x.ci.A x.ci.l.length x.ci.c],.agg #[.string x.nm,.slice A_da x.da.l.length c_da,.slice A_wi x.wi.l.length c_wi,.string x.pl,.string x.se,.string x.ha,.slice A_ci x.ci.l.length c_ci]] w fun e w'=>e=.returned (.bool true)∧Up w w':=by
 have hss:∀s:ByteArray,(s.toList==s.toList)=true:=fun s=>by simp
 have hii:∀i:Int,(i != i)=false:=fun s=>by simp
 have u:Up w ((w.alloc (.cells #[.string x.nm,.slice x.da.A x.da.l.length x.da.c,.slice x.wi.A x.wi.l.length x.wi.c,.string x.pl,.string x.se,.string x.ha,.slice x.ci.A x.ci.l.length x.ci.c] 81)).alloc (.cells #[.string x.nm,.slice A_da x.da.l.length c_da,.slice A_wi x.wi.l.length c_wi,.string x.pl,.string x.se,.string x.ha,.slice A_ci x.ci.l.length c_ci] 81)):=(Up.alloc w _).allocs _
 have hX:=(Bx.new w #[.string x.nm,.slice x.da.A x.da.l.length x.da.c,.slice x.wi.A x.wi.l.length x.wi.c,.string x.pl,.string x.se,.string x.ha,.slice x.ci.A x.ci.l.length x.ci.c] 81).up (Up.alloc _ (.cells #[.string x.nm,.slice A_da x.da.l.length c_da,.slice A_wi x.wi.l.length c_wi,.string x.pl,.string x.se,.string x.ha,.slice A_ci x.ci.l.length c_ci] 81))
 have hY:Bx ((w.alloc (.cells #[.string x.nm,.slice x.da.A x.da.l.length x.da.c,.slice x.wi.A x.wi.l.length x.wi.c,.string x.pl,.string x.se,.string x.ha,.slice x.ci.A x.ci.l.length x.ci.c] 81)).alloc (.cells #[.string x.nm,.slice A_da x.da.l.length c_da,.slice A_wi x.wi.l.length c_wi,.string x.pl,.string x.se,.string x.ha,.slice A_ci x.ci.l.length c_ci] 81)) (w.heap.size+1) [.string x.nm,.slice A_da x.da.l.length c_da,.slice A_wi x.wi.l.length c_wi,.string x.pl,.string x.se,.string x.ha,.slice A_ci x.ci.l.length c_ci]:=by
  have:=Bx.new (w.alloc (.cells #[.string x.nm,.slice x.da.A x.da.l.length x.da.c,.slice x.wi.A x.wi.l.length x.wi.c,.string x.pl,.string x.se,.string x.ha,.slice x.ci.A x.ci.l.length x.ci.c] 81)) #[.string x.nm,.slice A_da x.da.l.length c_da,.slice A_wi x.wi.l.length c_wi,.string x.pl,.string x.se,.string x.ha,.slice A_ci x.ci.l.length c_ci] 81
  simpa using this
 go_enter Tryz.func74,Tryz.ntmps74
 go_wp2_with fail
 generalize (w.alloc (.cells #[.string x.nm,.slice x.da.A x.da.l.length x.da.c,.slice x.wi.A x.wi.l.length x.wi.c,.string x.pl,.string x.se,.string x.ha,.slice x.ci.A x.ci.l.length x.ci.c] 81)).alloc (.cells #[.string x.nm,.slice A_da x.da.l.length c_da,.slice A_wi x.wi.l.length c_wi,.string x.pl,.string x.se,.string x.ha,.slice A_ci x.ci.l.length c_ci] 81)=w0 at *
 refine(eqClauseS_same x.da.A A_da x.da.l x.da.c c_da lo hi lo' hi' _ (h.da.rd.up u h.da.hhi) (Nat.le_trans h.da.hhi u.size) (h2.da.rd.up u h2.da.hhi) (Nat.le_trans h2.da.hhi u.size) h.da.len).mono ?_
 rintro e w1 ⟨rfl,v⟩
 replace u:=u.trans v;replace hX:=hX.up v;replace hY:=hY.up v;clear v;obtain⟨x0,x1,x2,x3,x4,x5,x6⟩:=hX.c7
 obtain⟨y0,y1,y2,y3,y4,y5,y6⟩:=hY.c7
 go_wp2_with fail
 refine(eqWitnessS_same x.wi.A A_wi x.wi.l x.wi.c c_wi lo hi lo' hi' _ (h.wi.rd.up u h.wi.hhi) (Nat.le_trans h.wi.hhi u.size) (h2.wi.rd.up u h2.wi.hhi) (Nat.le_trans h2.wi.hhi u.size) h.wi.len).mono ?_
 rintro e w2 ⟨rfl,v⟩
 replace u:=u.trans v;replace hX:=hX.up v;replace hY:=hY.up v;clear v;obtain⟨x0,x1,x2,x3,x4,x5,x6⟩:=hX.c7
 obtain⟨y0,y1,y2,y3,y4,y5,y6⟩:=hY.c7
 go_wp2_with fail
 refine(eqStringS_same x.ci.A A_ci x.ci.l x.ci.c c_ci lo hi lo' hi' _ (h.ci.rd.up u h.ci.hhi) (Nat.le_trans h.ci.hhi u.size) (h2.ci.rd.up u h2.ci.hhi) (Nat.le_trans h2.ci.hhi u.size) h.ci.len).mono ?_
 rintro e w3 ⟨rfl,v⟩
 replace u:=u.trans v;replace hX:=hX.up v;replace hY:=hY.up v;clear v;obtain⟨x0,x1,x2,x3,x4,x5,x6⟩:=hX.c7
 obtain⟨y0,y1,y2,y3,y4,y5,y6⟩:=hY.c7
 go_wp2
 all_goals first|(exfalso;simp_all;done)|(go_ret;exact⟨rfl,u⟩)
theorem eqDeed_p(x y:Dd)(lo hi lo' hi':Nat)(w:World)(h:RdE w lo hi x)(h2:RdE w lo' hi' y)(e:y.p=x.p) :
 Calls Tryz.prog 74 #[x.val,y.val] w fun e w'=>e=.returned (.bool true)∧Up w w':=by
 obtain⟨nm,⟨A_da,c_da,l_da⟩,⟨A_wi,c_wi,l_wi⟩,pl,se,ha,⟨A_ci,c_ci,l_ci⟩⟩:=y
 simp only[Dd.p,Pd.mk.injEq]at e
 obtain⟨rfl,rfl,rfl,rfl,rfl,rfl,rfl⟩:=e
 exact eqDeed_same x A_da c_da A_wi c_wi A_ci c_ci lo hi lo' hi' w h h2
theorem eqDeedS_p(s t:Sl Dd)(lo hi lo' hi':Nat)(w:World)(h:RdDd w lo hi s)(h2:RdDd w lo' hi' t)(e:t.l.map Dd.p=s.l.map Dd.p) :
 Calls Tryz.prog 33 #[.slice s.A s.l.length s.c,.slice t.A t.l.length t.c] w fun e w'=>e=.returned (.bool true)∧Up w w':=by
 obtain⟨A,c,l⟩:=s
 obtain⟨B,c',m⟩:=t
 have hr:=h.rd
 have hr':=h2.rd
 have hhi:=h.hhi
 have hhi':=h2.hhi
 have hl:m.length=l.length:=by simpa using congrArg List.length e
 have hn:l.length≤2000000:=h.len
 have hb0:((l.length:Int) != (m.length:Int))=false:=by simp[hl]
 have E:=qh e
 have hlm:l.length≤m.length:=by omega
 clear e hl;show Calls _ _ #[.slice A l.length c,.slice B m.length c'] _ _
 go_enter Tryz.func33,Tryz.ntmps33
 go_wp2;go_loopw [5] (fun i wr=>∃k:Nat,k≤l.length∧i=.int .i64 k∧Up w wr) (fun i _=>l.length-(intOf i).toNat)
 case atStart=>exact⟨0,Nat.zero_le _,rfl,Up.refl _⟩
 case round =>
  obtain⟨k,hk,rfl,hup⟩:=hrel
  by_cases hlt:k<l.length
  ·have hlt':k<m.length:=by omega
   obtain⟨b1,o1,d1,rfl,-,-,hd1,p0,p1,p2,p3,p4,p5,p6⟩:=(hr.up hup hhi).dd hlt
   obtain⟨b2,o2,d2,rfl,-,-,hd2,q0,q1,q2,q3,q4,q5,q6⟩:=(hr'.up hup hhi').dd hlt'
   have hp:d2.p=d1.p:=by
    have e2:(m.map Dd.p)[k]?=(l.map Dd.p)[k]?:=by rw[E.out]
    rw[List.getElem?_map,List.getElem?_map,hd1,hd2]at e2;exact Option.some.inj e2
   have HE:=qh (fun(wx:World) (u:Up wr wx)=>eqDeed_p d1 d2 lo hi lo' hi' wx ((h.each d1 (List.mem_of_getElem? hd1)).up (hup.trans u)) ((h2.each d2 (List.mem_of_getElem? hd2)).up (hup.trans u)) hp)
   clear hd1 hd2 hp;have P0:=cell_regrown p0
   have Q0:=cell_regrown q0
   have P1:=cell_regrown p1
   have Q1:=cell_regrown q1
   have P2:=cell_regrown p2
   have Q2:=cell_regrown q2
   have P3:=cell_regrown p3
   have Q3:=cell_regrown q3
   have P4:=cell_regrown p4
   have Q4:=cell_regrown q4
   have P5:=cell_regrown p5
   have Q5:=cell_regrown q5
   have P6:=cell_regrown p6
   have Q6:=cell_regrown q6
   go_wp2_with fail
   refine wp_region_quiet_below (by kernel_rfl) (by kernel_rfl) ?_
   repeat (quiet_step ((go_at_call 74;exact Calls.regrown_of (HE.out _ (below_regrown _ _ _)))))
   refine wpQuiet_nil ?_
   intro w2 hw2
   obtain⟨⟨dq,osq⟩,hw2⟩:=hw2
   have hup2:Up wr w2:=by rw[hw2];exact below_regrown _ _ _
   clear hw2 P0 Q0 P1 Q1 P2 Q2 P3 Q3 P4 Q4 P5 Q5 P6 Q6;go_wp2;go_roundw
   case rel=>exact⟨k+1,by omega,by go_num,hup.trans hup2⟩
   case measure=>simp[intOf];omega
  ·go_wp2
   go_ret;exact⟨rfl,hup⟩
theorem szDeed_any(x:Dd)(lo hi:Nat)(left:Int)(w:World)(h:RawE w lo hi x)(h0:0≤left)(hl:left≤2000000) :
 Calls Tryz.prog 45 #[x.val,.int .i64 left] w fun e w'=>∃z:Int,e=.returned (.int .i64 z)∧z≤left∧(z<0∨z+nD x≤left)∧Up w w':=by
 have n1:=h.nm
 have n2:=h.pl
 have n3:=h.se
 have n4:=h.ha
 unfold maxLen at n1 n2 n3 n4
 have u:=Up.alloc w (.cells #[.string x.nm,.slice x.da.A x.da.l.length x.da.c,.slice x.wi.A x.wi.l.length x.wi.c,.string x.pl,.string x.se,.string x.ha,.slice x.ci.A x.ci.l.length x.ci.c] 112)
 have hB:=Bx.new w #[.string x.nm,.slice x.da.A x.da.l.length x.da.c,.slice x.wi.A x.wi.l.length x.wi.c,.string x.pl,.string x.se,.string x.ha,.slice x.ci.A x.ci.l.length x.ci.c] 112
 by_cases a1:left<(x.nm.size:Nat)
 ·go_enter Tryz.func45,Tryz.ntmps45
  go_wp2;go_ret;exact⟨_,rfl,by omega,.inl (by omega),u⟩
 go_enter Tryz.func45,Tryz.ntmps45
 go_wp2_with fail
 generalize w.alloc (.cells #[.string x.nm,.slice x.da.A x.da.l.length x.da.c,.slice x.wi.A x.wi.l.length x.wi.c,.string x.pl,.string x.se,.string x.ha,.slice x.ci.A x.ci.l.length x.ci.c] 112)=w0 at *
 refine(szClauseS_any x.da.A x.da.l x.da.c lo hi _ _ (h.da.rd.up u h.da.hhi) (Nat.le_trans h.da.hhi u.size) h.da.ok (by omega) (by omega) h.da.len).mono ?_
 rintro e w1 ⟨z1,rfl,hz1,sm1,v⟩
 replace u:=u.trans v;replace hB:=hB.up v;obtain⟨x0,x1,x2,x3,x4,x5,x6⟩:=hB.c7
 by_cases c1:z1<0
 ·have hd:decide (z1<0)=true:=by simpa using c1
  go_wp2;go_ret;exact⟨-1,rfl,by omega,.inl (by omega),u⟩
 have hd1:decide (z1<0)=false:=by simpa using c1
 go_wp2_with fail
 refine(szWitnessS_any x.wi.A x.wi.l x.wi.c lo hi _ _ (h.wi.rd.up u h.wi.hhi) (Nat.le_trans h.wi.hhi u.size) h.wi.ok (by omega) (by omega) h.wi.len).mono ?_
 rintro e w2 ⟨z2,rfl,hz2,sm2,v2⟩
 replace u:=u.trans v2;replace hB:=hB.up v2;obtain⟨x0,x1,x2,x3,x4,x5,x6⟩:=hB.c7
 by_cases c2:z2<0
 ·have hd:decide (z2<0)=true:=by simpa using c2
  go_wp2;go_ret;exact⟨-1,rfl,by omega,.inl (by omega),u⟩
 have hd2:decide (z2<0)=false:=by simpa using c2
 by_cases a2:z2<(x.pl.size:Nat)
 ·go_wp2
  go_ret;exact⟨_,rfl,by omega,.inl (by omega),u⟩
 by_cases a3:z2<(x.pl.size+x.se.size:Nat)
 ·go_wp2
  go_ret;exact⟨_,rfl,by omega,.inl (by omega),u⟩
 by_cases a4:z2<(x.pl.size+x.se.size+x.ha.size:Nat)
 ·go_wp2
  go_ret;exact⟨_,rfl,by omega,.inl (by omega),u⟩
 go_wp2_with fail
 refine(szStringS_w x.ci.A x.ci.l x.ci.c lo hi _ _ (h.ci.rd.up u h.ci.hhi) (Nat.le_trans h.ci.hhi u.size) h.ci.ok (by omega) (by omega) h.ci.len).mono ?_
 rintro e w3 ⟨z3,rfl,hz3,sm3,v3⟩
 replace u:=u.trans v3;by_cases c3:z3<0
 ·have hd:decide (z3<0)=true:=by simpa using c3
  go_wp2;go_ret;exact⟨-1,rfl,by omega,.inl (by omega),u⟩
 have hd3:decide (z3<0)=false:=by simpa using c3
 go_wp2;go_ret;exact⟨z3,rfl,by omega,.inr (by unfold nD;omega),u⟩
theorem szDeedS_any(s:Sl (Dd))(lo hi:Nat)(left:Int)(w:World)(h:RawDd w lo hi s)(h0:0≤left)(hl:left≤2000000) :
 Calls Tryz.prog 14 #[.slice s.A s.l.length s.c,.int .i64 left] w fun e w'=>∃z:Int,e=.returned (.int .i64 z)∧z≤left∧(z<0∨z+nDs s.l≤left)∧Up w w':=by
 obtain⟨A,c,l⟩:=s
 have hr:=h.rd
 have hhi:=h.hhi
 have hn:l.length≤maxLen:=h.len
 have hea:=qh h.each
 clear h;unfold maxLen at hn
 show Calls _ _ #[.slice A l.length c,_] _ _
 by_cases c1:left<l.length
 ·go_enter Tryz.func14,Tryz.ntmps14
  go_wp2;go_ret;exact⟨-1,rfl,by omega,.inl (by omega),Up.refl _⟩
 ·go_enter Tryz.func14,Tryz.ntmps14
  have hb0:decide (left-(l.length:Int)<0)=false:=by simp;omega
  go_wp2;go_loopw [4,1,5] (fun r lf i wr=>∃k:Nat,∃z:Int,k≤l.length∧i=.int .i64 k∧lf=.int .i64 z∧0≤z∧z≤left∧z+(l.length:Int)+nL nD (l.take k)≤left∧Up w wr) (fun _ _ i _=>l.length-(intOf i).toNat)
  case atStart=>exact⟨0,_,Nat.zero_le _,rfl,rfl,by omega,by omega,by simp[nL],Up.refl _⟩
  case round =>
   obtain⟨k,z,hk,rfl,rfl,hz0,hz1,hsm,hup⟩:=hrel
   have HS:=qh hsm
   clear hsm;by_cases hlt:k<l.length
   ·obtain⟨b,off,d,rfl,hlo,hb,hd,q0,q1,q2,q3,q4,q5,q6⟩:=(hr.up hup hhi).dd hlt
    have HD:=qh hd
    clear hd;go_wp2_with fail
    refine(szDeed_any d lo hi _ _ ((hea.out d (List.mem_of_getElem? HD.out)).up hup) (by omega) (by omega)).mono ?_
    rintro e w' ⟨z',rfl,hz',sm,hup'⟩
    have SM:=qh sm
    clear sm;by_cases c2:z' < 0
    ·have hdec:decide (z' < 0)=true:=by simpa using c2
     go_wp2;go_ret;exact⟨-1,rfl,by omega,.inl (by omega),hup.trans hup'⟩
    ·have hdec:decide (z' < 0)=false:=by simpa using c2
     go_wp2;go_roundw
     case rel=>exact⟨k+1,_,by omega,by go_num,rfl,by omega,by omega,by rw[nL_take HD.out];have:=HS.out;have:=SM.out.resolve_left (by omega);omega,hup.trans hup'⟩
     case measure=>simp[intOf];omega
   ·go_wp2
    go_ret;have hk2:k=l.length:=by omega
    have:=HS.out
    rw[hk2,List.take_of_length_le (Nat.le_refl _)]at this;exact⟨z,rfl,by omega,.inr (by first|(unfold nDs;omega)|(unfold nPs;omega)),hup⟩
theorem szFormS_w(s:Sl Fm)(lo hi:Nat)(left:Int)(w:World)(h:RawF w lo hi s)(h0:0≤left)(hl:left≤2000000) :
 Calls Tryz.prog 15 #[.slice s.A s.l.length s.c,.int .i64 left] w fun e w'=>∃z:Int,e=.returned (.int .i64 z)∧z≤left∧(z<0∨z+nFs s.l≤left)∧Up w w' :=
 (szFormulaS_any s.A s.l s.c lo hi left w h.rd h.hhi h.ok h0 hl h.len).mono fun e w' ⟨h1,h2⟩=>by
   by_cases c:szFL s.l left<0
   ·exact⟨_,h1,by omega,.inl c,h2⟩
   ·obtain⟨k1,k2,k3⟩:=szFL_len h0 c
    exact⟨_,h1,k1,.inr (szFL_n h0 c),h2⟩
theorem szStringSS_any(s:Sl (Sl ByteArray))(lo hi:Nat)(left:Int)(w:World)(h:RawPh w lo hi s)(h0:0≤left)(hl:left≤2000000) :
 Calls Tryz.prog 16 #[.slice s.A s.l.length s.c,.int .i64 left] w fun e w'=>∃z:Int,e=.returned (.int .i64 z)∧z≤left∧(z<0∨z+nPs s.l≤left)∧Up w w':=by
 obtain⟨A,c,l⟩:=s
 have hr:=h.rd
 have hhi:=h.hhi
 have hn:l.length≤maxLen:=h.len
 have hea:=qh h.each
 clear h;unfold maxLen at hn
 show Calls _ _ #[.slice A l.length c,_] _ _
 by_cases c1:left<l.length
 ·go_enter Tryz.func16,Tryz.ntmps16
  go_wp2;go_ret;exact⟨-1,rfl,by omega,.inl (by omega),Up.refl _⟩
 ·go_enter Tryz.func16,Tryz.ntmps16
  have hb0:decide (left-(l.length:Int)<0)=false:=by simp;omega
  go_wp2;go_loopw [4,1,5] (fun r lf i wr=>∃k:Nat,∃z:Int,k≤l.length∧i=.int .i64 k∧lf=.int .i64 z∧0≤z∧z≤left∧z+(l.length:Int)+nL nP (l.take k)≤left∧Up w wr) (fun _ _ i _=>l.length-(intOf i).toNat)
  case atStart=>exact⟨0,_,Nat.zero_le _,rfl,rfl,by omega,by omega,by simp[nL],Up.refl _⟩
  case round =>
   obtain⟨k,z,hk,rfl,rfl,hz0,hz1,hsm,hup⟩:=hrel
   have HS:=qh hsm
   clear hsm;by_cases hlt:k<l.length
   ·obtain⟨b,off,d,rfl,hlo,hb,hd,q0⟩:=(hr.up hup hhi).ph hlt
    have HD:=qh hd
    clear hd;have hq:=(hea.out d (List.mem_of_getElem? HD.out)).up hup
    have HC:=qh (szStringS_w d.A d.l d.c lo hi z wr hq.rd hq.hhi hq.ok hz0 (by omega) hq.len)
    clear hq;go_wp2_with fail
    refine HC.out.mono ?_
    rintro e w' ⟨z',rfl,hz',sm,hup'⟩
    have SM:=qh sm
    clear sm;by_cases c2:z' < 0
    ·have hdec:decide (z' < 0)=true:=by simpa using c2
     go_wp2;go_ret;exact⟨-1,rfl,by omega,.inl (by omega),hup.trans hup'⟩
    ·have hdec:decide (z' < 0)=false:=by simpa using c2
     go_wp2;go_roundw
     case rel=>exact⟨k+1,_,by omega,by go_num,rfl,by omega,by omega,by rw[nL_take HD.out];have:=HS.out;have:=SM.out.resolve_left (by omega);have e2:nP d=(d.l.length:Int):=rfl;omega,hup.trans hup'⟩
     case measure=>simp[intOf];omega
   ·go_wp2
    go_ret;have hk2:k=l.length:=by omega
    have:=HS.out
    rw[hk2,List.take_of_length_le (Nat.le_refl _)]at this;exact⟨z,rfl,by omega,.inr (by first|(unfold nDs;omega)|(unfold nPs;omega)),hup⟩
theorem eqStringSS_p(s t:Sl (Sl ByteArray))(lo hi lo' hi':Nat)(w:World)(h:SrPh w lo hi s)(h2:SrPh w lo' hi' t)(e:phP t.l=phP s.l) :
 Calls Tryz.prog 35 #[.slice s.A s.l.length s.c,.slice t.A t.l.length t.c] w fun e w'=>e=.returned (.bool true)∧Up w w':=by
 obtain⟨A,c,l⟩:=s
 obtain⟨B,c',m⟩:=t
 have hr:=h.rd
 have hr':=h2.rd
 have hhi:=h.hhi
 have hhi':=h2.hhi
 have hl:m.length=l.length:=by simpa using congrArg List.length e
 have hn:l.length≤2000000:=h.len
 have hb0:((l.length:Int) != (m.length:Int))=false:=by simp[hl]
 have E:=qh e
 have hlm:l.length≤m.length:=by omega
 clear e hl;show Calls _ _ #[.slice A l.length c,.slice B m.length c'] _ _
 go_enter Tryz.func35,Tryz.ntmps35
 go_wp2;go_loopw [5] (fun i wr=>∃k:Nat,k≤l.length∧i=.int .i64 k∧Up w wr) (fun i _=>l.length-(intOf i).toNat)
 case atStart=>exact⟨0,Nat.zero_le _,rfl,Up.refl _⟩
 case round =>
  obtain⟨k,hk,rfl,hup⟩:=hrel
  by_cases hlt:k<l.length
  ·have hlt':k<m.length:=by omega
   obtain⟨b1,o1,d1,rfl,-,-,hd1,p0⟩:=(hr.up hup hhi).ph hlt
   obtain⟨b2,o2,d2,rfl,-,-,hd2,q0⟩:=(hr'.up hup hhi').ph hlt'
   have hp:d2.l=d1.l:=by
    have e2:(phP m)[k]?=(phP l)[k]?:=by rw[E.out]
    rw[List.getElem?_map,List.getElem?_map,hd1,hd2]at e2;exact Option.some.inj e2
   have s1:=h.each d1 (List.mem_of_getElem? hd1)
   have s2:=h2.each d2 (List.mem_of_getElem? hd2)
   obtain⟨A2,c2,l2⟩:=d2
   simp only at hp
   subst hp;have HE:=qh (fun(wx:World) (u:Up wr wx)=>eqStringS_same d1.A A2 d1.l d1.c c2 lo hi lo' hi' wx ((s1.up (hup.trans u)).rd) ((s1.up (hup.trans u)).hhi) ((s2.up (hup.trans u)).rd) ((s2.up (hup.trans u)).hhi) s1.len)
   clear hd1 hd2 s1 s2;have P0:=cell_regrown p0
   have Q0:=cell_regrown q0
   go_wp2_with fail
   refine wp_region_quiet_below (by kernel_rfl) (by kernel_rfl) ?_
   repeat (quiet_step ((go_at_call 76;exact Calls.regrown_of (HE.out _ (below_regrown _ _ _)))))
   refine wpQuiet_nil ?_
   intro w2 hw2
   obtain⟨⟨dq,osq⟩,hw2⟩:=hw2
   have hup2:Up wr w2:=by rw[hw2];exact below_regrown _ _ _
   clear hw2 P0 Q0;go_wp2;go_roundw
   case rel=>exact⟨k+1,by omega,by go_num,hup.trans hup2⟩
   case measure=>simp[intOf];omega
  ·go_wp2
   go_ret;exact⟨rfl,hup⟩
theorem eqFormS_p(s t:Sl Fm)(lo hi lo' hi':Nat)(w:World)(h:SrF w lo hi s)(h2:SrF w lo' hi' t)(e:t.l.map Fm.p=s.l.map Fm.p) :
 Calls Tryz.prog 34 #[.slice s.A s.l.length s.c,.slice t.A t.l.length t.c] w fun e w'=>e=.returned (.bool true)∧Up w w' :=
 (eqFormulaS_any s.A t.A s.l t.l s.c t.c lo hi lo' hi' w h.rd h.hhi h2.rd h2.hhi h2.len h.ws).mono fun r w' ⟨h1,h3⟩=>⟨by rw[h1];exact ret_bool (eqFs_self e.symm),h3⟩
theorem szEvidence_any(x:Wd)(s:Sl Dd)(g:Sl Fm)(q:Sl (Sl ByteArray))(lo hi:Nat)(left:Int)(w:World)(h1:RawW w lo hi x)(h2:RawDd w lo hi s)(h3:RawF w lo hi g)(h4:RawPh w lo hi q)(h0:0≤left)(hl:left≤2000000) :
 Calls Tryz.prog 4 #[.agg #[.slice x.rs.A x.rs.l.length x.rs.c,.int .i64 x.fr,.int .i64 x.to_,.slice x.ps.A x.ps.l.length x.ps.c,.slice x.ts.A x.ts.l.length x.ts.c,.slice x.pl.A x.pl.l.length x.pl.c,.slice x.ws.A x.ws.l.length x.ws.c,.slice x.st.A x.st.l.length x.st.c,.slice x.se.A x.se.l.length x.se.c,.slice x.ha.A x.ha.l.length x.ha.c,.slice s.A s.l.length s.c,.slice g.A g.l.length g.c,.slice q.A q.l.length q.c],.int .i64 left] w fun e w'=>∃z:Int,e=.returned (.int .i64 z)∧z≤left∧(z<0∨z+nEv x s g q≤left)∧Up w w':=by
 have u0:=Up.alloc w (.cells #[.slice x.rs.A x.rs.l.length x.rs.c,.int .i64 x.fr,.int .i64 x.to_,.slice x.ps.A x.ps.l.length x.ps.c,.slice x.ts.A x.ts.l.length x.ts.c,.slice x.pl.A x.pl.l.length x.pl.c,.slice x.ws.A x.ws.l.length x.ws.c,.slice x.st.A x.st.l.length x.st.c,.slice x.se.A x.se.l.length x.se.c,.slice x.ha.A x.ha.l.length x.ha.c,.slice s.A s.l.length s.c,.slice g.A g.l.length g.c,.slice q.A q.l.length q.c] 41)
 have hB0:=Bx.new w #[.slice x.rs.A x.rs.l.length x.rs.c,.int .i64 x.fr,.int .i64 x.to_,.slice x.ps.A x.ps.l.length x.ps.c,.slice x.ts.A x.ts.l.length x.ts.c,.slice x.pl.A x.pl.l.length x.pl.c,.slice x.ws.A x.ws.l.length x.ws.c,.slice x.st.A x.st.l.length x.st.c,.slice x.se.A x.se.l.length x.se.c,.slice x.ha.A x.ha.l.length x.ha.c,.slice s.A s.l.length s.c,.slice g.A g.l.length g.c,.slice q.A q.l.length q.c] 41
 go_enter Tryz.func4,Tryz.ntmps4
 go_wp2_with fail
 generalize w.alloc (.cells #[.slice x.rs.A x.rs.l.length x.rs.c,.int .i64 x.fr,.int .i64 x.to_,.slice x.ps.A x.ps.l.length x.ps.c,.slice x.ts.A x.ts.l.length x.ts.c,.slice x.pl.A x.pl.l.length x.pl.c,.slice x.ws.A x.ws.l.length x.ws.c,.slice x.st.A x.st.l.length x.st.c,.slice x.se.A x.se.l.length x.se.c,.slice x.ha.A x.ha.l.length x.ha.c,.slice s.A s.l.length s.c,.slice g.A g.l.length g.c,.slice q.A q.l.length q.c] 41)=w0 at *
 refine(szWorld_any x lo hi left _ (h1.up u0) (by omega) (by omega)).mono ?_
 rintro e w1 ⟨z1,rfl,hz1,sm1,v1⟩
 have u1:=u0.trans v1
 have hB1:=hB0.up v1
 have SM1:=qh sm1
 clear sm1;obtain⟨x0,x1,x2,x3,x4,x5,x6,x7,x8,x9,x10,x11,x12⟩:=hB1.c13
 by_cases c1:z1<0
 ·have hd:decide (z1<0)=true:=by simpa using c1
  go_wp2;go_ret;exact⟨-1,rfl,by omega,.inl (by omega),u1⟩
 have hd1:decide (z1<0)=false:=by simpa using c1
 go_wp2_with fail
 refine(szDeedS_any s lo hi z1 _ (h2.up u1) (by omega) (by omega)).mono ?_
 rintro e w2 ⟨z2,rfl,hz2,sm2,v2⟩
 have u2:=u1.trans v2
 have hB2:=hB1.up v2
 have SM2:=qh sm2
 clear sm2;obtain⟨x0,x1,x2,x3,x4,x5,x6,x7,x8,x9,x10,x11,x12⟩:=hB2.c13
 by_cases c2:z2<0
 ·have hd:decide (z2<0)=true:=by simpa using c2
  go_wp2;go_ret;exact⟨-1,rfl,by omega,.inl (by omega),u2⟩
 have hd2:decide (z2<0)=false:=by simpa using c2
 go_wp2_with fail
 refine(szFormS_w g lo hi z2 _ (h3.up u2) (by omega) (by omega)).mono ?_
 rintro e w3 ⟨z3,rfl,hz3,sm3,v3⟩
 have u3:=u2.trans v3
 have hB3:=hB2.up v3
 have SM3:=qh sm3
 clear sm3;obtain⟨x0,x1,x2,x3,x4,x5,x6,x7,x8,x9,x10,x11,x12⟩:=hB3.c13
 by_cases c3:z3<0
 ·have hd:decide (z3<0)=true:=by simpa using c3
  go_wp2;go_ret;exact⟨-1,rfl,by omega,.inl (by omega),u3⟩
 have hd3:decide (z3<0)=false:=by simpa using c3
 go_wp2_with fail
 refine(szStringSS_any q lo hi z3 _ (h4.up u3) (by omega) (by omega)).mono ?_
 rintro e w4 ⟨z4,rfl,hz4,sm4,v4⟩
 have u4:=u3.trans v4
 have hB4:=hB3.up v4
 have SM4:=qh sm4
 clear sm4;obtain⟨x0,x1,x2,x3,x4,x5,x6,x7,x8,x9,x10,x11,x12⟩:=hB4.c13
 by_cases c4:z4<0
 ·have hd:decide (z4<0)=true:=by simpa using c4
  go_wp2;go_ret;exact⟨-1,rfl,by omega,.inl (by omega),u4⟩
 have hd4:decide (z4<0)=false:=by simpa using c4
 go_wp2;go_ret;exact⟨z4,rfl,by omega,.inr (by have:=SM1.out;have:=SM2.out;have:=SM3.out;have:=SM4.out;unfold nEv;omega),u4⟩
theorem eqEvidence_p(x:Wd)(s:Sl Dd)(g:Sl Fm)(q:Sl (Sl ByteArray))(x':Wd)(s':Sl Dd)(g':Sl Fm)(q':Sl (Sl ByteArray))(lo hi lo' hi':Nat)(w:World)(h1:RdW w lo hi x)(h2:RdDd w lo hi s)(h3:SrF w lo hi g)(h4:SrPh w lo hi q)(k1:RdW w lo' hi' x')(k2:RdDd w lo' hi' s')(k3:SrF w lo' hi' g')(k4:SrPh w lo' hi' q')(e1:x'.p=x.p)(e2:s'.l.map Dd.p=s.l.map Dd.p)(e3:g'.l.map Fm.p=g.l.map Fm.p)(e4:phP q'.l=phP q.l) :
 Calls Tryz.prog 9 #[.agg #[.slice x.rs.A x.rs.l.length x.rs.c,.int .i64 x.fr,.int .i64 x.to_,.slice x.ps.A x.ps.l.length x.ps.c,.slice x.ts.A x.ts.l.length x.ts.c,.slice x.pl.A x.pl.l.length x.pl.c,.slice x.ws.A x.ws.l.length x.ws.c,.slice x.st.A x.st.l.length x.st.c,.slice x.se.A x.se.l.length x.se.c,.slice x.ha.A x.ha.l.length x.ha.c,.slice s.A s.l.length s.c,.slice g.A g.l.length g.c,.slice q.A q.l.length q.c],.agg #[.slice x'.rs.A x'.rs.l.length x'.rs.c,.int .i64 x'.fr,.int .i64 x'.to_,.slice x'.ps.A x'.ps.l.length x'.ps.c,.slice x'.ts.A x'.ts.l.length x'.ts.c,.slice x'.pl.A x'.pl.l.length x'.pl.c,.slice x'.ws.A x'.ws.l.length x'.ws.c,.slice x'.st.A x'.st.l.length x'.st.c,.slice x'.se.A x'.se.l.length x'.se.c,.slice x'.ha.A x'.ha.l.length x'.ha.c,.slice s'.A s'.l.length s'.c,.slice g'.A g'.l.length g'.c,.slice q'.A q'.l.length q'.c]] w fun e w'=>e=.returned (.bool true)∧Up w w':=by
 have E1:=qh e1
 have E2:=qh e2
 have E3:=qh e3
 have E4:=qh e4
 clear e1 e2 e3 e4;have u:Up w ((w.alloc (.cells #[.slice x.rs.A x.rs.l.length x.rs.c,.int .i64 x.fr,.int .i64 x.to_,.slice x.ps.A x.ps.l.length x.ps.c,.slice x.ts.A x.ts.l.length x.ts.c,.slice x.pl.A x.pl.l.length x.pl.c,.slice x.ws.A x.ws.l.length x.ws.c,.slice x.st.A x.st.l.length x.st.c,.slice x.se.A x.se.l.length x.se.c,.slice x.ha.A x.ha.l.length x.ha.c,.slice s.A s.l.length s.c,.slice g.A g.l.length g.c,.slice q.A q.l.length q.c] 63)).alloc (.cells #[.slice x'.rs.A x'.rs.l.length x'.rs.c,.int .i64 x'.fr,.int .i64 x'.to_,.slice x'.ps.A x'.ps.l.length x'.ps.c,.slice x'.ts.A x'.ts.l.length x'.ts.c,.slice x'.pl.A x'.pl.l.length x'.pl.c,.slice x'.ws.A x'.ws.l.length x'.ws.c,.slice x'.st.A x'.st.l.length x'.st.c,.slice x'.se.A x'.se.l.length x'.se.c,.slice x'.ha.A x'.ha.l.length x'.ha.c,.slice s'.A s'.l.length s'.c,.slice g'.A g'.l.length g'.c,.slice q'.A q'.l.length q'.c] 63)):=(Up.alloc w _).allocs _
 have hX:=(Bx.new w #[.slice x.rs.A x.rs.l.length x.rs.c,.int .i64 x.fr,.int .i64 x.to_,.slice x.ps.A x.ps.l.length x.ps.c,.slice x.ts.A x.ts.l.length x.ts.c,.slice x.pl.A x.pl.l.length x.pl.c,.slice x.ws.A x.ws.l.length x.ws.c,.slice x.st.A x.st.l.length x.st.c,.slice x.se.A x.se.l.length x.se.c,.slice x.ha.A x.ha.l.length x.ha.c,.slice s.A s.l.length s.c,.slice g.A g.l.length g.c,.slice q.A q.l.length q.c] 63).up (Up.alloc _ (.cells #[.slice x'.rs.A x'.rs.l.length x'.rs.c,.int .i64 x'.fr,.int .i64 x'.to_,.slice x'.ps.A x'.ps.l.length x'.ps.c,.slice x'.ts.A x'.ts.l.length x'.ts.c,.slice x'.pl.A x'.pl.l.length x'.pl.c,.slice x'.ws.A x'.ws.l.length x'.ws.c,.slice x'.st.A x'.st.l.length x'.st.c,.slice x'.se.A x'.se.l.length x'.se.c,.slice x'.ha.A x'.ha.l.length x'.ha.c,.slice s'.A s'.l.length s'.c,.slice g'.A g'.l.length g'.c,.slice q'.A q'.l.length q'.c] 63))
 have hY:Bx ((w.alloc (.cells #[.slice x.rs.A x.rs.l.length x.rs.c,.int .i64 x.fr,.int .i64 x.to_,.slice x.ps.A x.ps.l.length x.ps.c,.slice x.ts.A x.ts.l.length x.ts.c,.slice x.pl.A x.pl.l.length x.pl.c,.slice x.ws.A x.ws.l.length x.ws.c,.slice x.st.A x.st.l.length x.st.c,.slice x.se.A x.se.l.length x.se.c,.slice x.ha.A x.ha.l.length x.ha.c,.slice s.A s.l.length s.c,.slice g.A g.l.length g.c,.slice q.A q.l.length q.c] 63)).alloc (.cells #[.slice x'.rs.A x'.rs.l.length x'.rs.c,.int .i64 x'.fr,.int .i64 x'.to_,.slice x'.ps.A x'.ps.l.length x'.ps.c,.slice x'.ts.A x'.ts.l.length x'.ts.c,.slice x'.pl.A x'.pl.l.length x'.pl.c,.slice x'.ws.A x'.ws.l.length x'.ws.c,.slice x'.st.A x'.st.l.length x'.st.c,.slice x'.se.A x'.se.l.length x'.se.c,.slice x'.ha.A x'.ha.l.length x'.ha.c,.slice s'.A s'.l.length s'.c,.slice g'.A g'.l.length g'.c,.slice q'.A q'.l.length q'.c] 63)) (w.heap.size+1) [.slice x'.rs.A x'.rs.l.length x'.rs.c,.int .i64 x'.fr,.int .i64 x'.to_,.slice x'.ps.A x'.ps.l.length x'.ps.c,.slice x'.ts.A x'.ts.l.length x'.ts.c,.slice x'.pl.A x'.pl.l.length x'.pl.c,.slice x'.ws.A x'.ws.l.length x'.ws.c,.slice x'.st.A x'.st.l.length x'.st.c,.slice x'.se.A x'.se.l.length x'.se.c,.slice x'.ha.A x'.ha.l.length x'.ha.c,.slice s'.A s'.l.length s'.c,.slice g'.A g'.l.length g'.c,.slice q'.A q'.l.length q'.c]:=by
  have:=Bx.new (w.alloc (.cells #[.slice x.rs.A x.rs.l.length x.rs.c,.int .i64 x.fr,.int .i64 x.to_,.slice x.ps.A x.ps.l.length x.ps.c,.slice x.ts.A x.ts.l.length x.ts.c,.slice x.pl.A x.pl.l.length x.pl.c,.slice x.ws.A x.ws.l.length x.ws.c,.slice x.st.A x.st.l.length x.st.c,.slice x.se.A x.se.l.length x.se.c,.slice x.ha.A x.ha.l.length x.ha.c,.slice s.A s.l.length s.c,.slice g.A g.l.length g.c,.slice q.A q.l.length q.c] 63)) #[.slice x'.rs.A x'.rs.l.length x'.rs.c,.int .i64 x'.fr,.int .i64 x'.to_,.slice x'.ps.A x'.ps.l.length x'.ps.c,.slice x'.ts.A x'.ts.l.length x'.ts.c,.slice x'.pl.A x'.pl.l.length x'.pl.c,.slice x'.ws.A x'.ws.l.length x'.ws.c,.slice x'.st.A x'.st.l.length x'.st.c,.slice x'.se.A x'.se.l.length x'.se.c,.slice x'.ha.A x'.ha.l.length x'.ha.c,.slice s'.A s'.l.length s'.c,.slice g'.A g'.l.length g'.c,.slice q'.A q'.l.length q'.c] 63
  simpa using this
 go_enter Tryz.func9,Tryz.ntmps9
 go_wp2_with fail
 generalize (w.alloc (.cells #[.slice x.rs.A x.rs.l.length x.rs.c,.int .i64 x.fr,.int .i64 x.to_,.slice x.ps.A x.ps.l.length x.ps.c,.slice x.ts.A x.ts.l.length x.ts.c,.slice x.pl.A x.pl.l.length x.pl.c,.slice x.ws.A x.ws.l.length x.ws.c,.slice x.st.A x.st.l.length x.st.c,.slice x.se.A x.se.l.length x.se.c,.slice x.ha.A x.ha.l.length x.ha.c,.slice s.A s.l.length s.c,.slice g.A g.l.length g.c,.slice q.A q.l.length q.c] 63)).alloc (.cells #[.slice x'.rs.A x'.rs.l.length x'.rs.c,.int .i64 x'.fr,.int .i64 x'.to_,.slice x'.ps.A x'.ps.l.length x'.ps.c,.slice x'.ts.A x'.ts.l.length x'.ts.c,.slice x'.pl.A x'.pl.l.length x'.pl.c,.slice x'.ws.A x'.ws.l.length x'.ws.c,.slice x'.st.A x'.st.l.length x'.st.c,.slice x'.se.A x'.se.l.length x'.se.c,.slice x'.ha.A x'.ha.l.length x'.ha.c,.slice s'.A s'.l.length s'.c,.slice g'.A g'.l.length g'.c,.slice q'.A q'.l.length q'.c] 63)=w0 at *
 refine(eqWorld_p x x' lo hi lo' hi' _ (h1.up u) (k1.up u) E1.out).mono ?_
 rintro e w1 ⟨rfl,v⟩
 replace u:=u.trans v;replace hX:=hX.up v;replace hY:=hY.up v;clear v;obtain⟨x0,x1,x2,x3,x4,x5,x6,x7,x8,x9,x10,x11,x12⟩:=hX.c13
 obtain⟨y0,y1,y2,y3,y4,y5,y6,y7,y8,y9,y10,y11,y12⟩:=hY.c13
 go_wp2_with fail
 refine(eqDeedS_p s s' lo hi lo' hi' _ (h2.up u) (k2.up u) E2.out).mono ?_
 rintro e w2 ⟨rfl,v⟩
 replace u:=u.trans v;replace hX:=hX.up v;replace hY:=hY.up v;clear v;obtain⟨x0,x1,x2,x3,x4,x5,x6,x7,x8,x9,x10,x11,x12⟩:=hX.c13
 obtain⟨y0,y1,y2,y3,y4,y5,y6,y7,y8,y9,y10,y11,y12⟩:=hY.c13
 go_wp2_with fail
 refine(eqFormS_p g g' lo hi lo' hi' _ (h3.up u) (k3.up u) E3.out).mono ?_
 rintro e w3 ⟨rfl,v⟩
 replace u:=u.trans v;replace hX:=hX.up v;replace hY:=hY.up v;clear v;obtain⟨x0,x1,x2,x3,x4,x5,x6,x7,x8,x9,x10,x11,x12⟩:=hX.c13
 obtain⟨y0,y1,y2,y3,y4,y5,y6,y7,y8,y9,y10,y11,y12⟩:=hY.c13
 go_wp2_with fail
 refine(eqStringSS_p q q' lo hi lo' hi' _ (h4.up u) (k4.up u) E4.out).mono ?_
 rintro e w4 ⟨rfl,v⟩
 replace u:=u.trans v;replace hX:=hX.up v;replace hY:=hY.up v;clear v;obtain⟨x0,x1,x2,x3,x4,x5,x6,x7,x8,x9,x10,x11,x12⟩:=hX.c13
 obtain⟨y0,y1,y2,y3,y4,y5,y6,y7,y8,y9,y10,y11,y12⟩:=hY.c13
 go_wp2;go_ret;exact⟨rfl,u⟩
end Go.Proofs.YtihcmhmanfobcaaGreatDoor
