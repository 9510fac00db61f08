/- Marks on evidence that the call itself made, and whether they are still held. -/
import Derived.Test.YtihcmhmanfobcaaGreatDoorWmD
set_option maxHeartbeats 4000000
set_option maxRecDepth 100000
namespace Go.Proofs.YtihcmhmanfobcaaGreatDoor
open Go.RowKit Go.Sort
def rowsEv(x:Wd)(s:Sl Dd)(g:Sl Fm)(q:Sl (Sl ByteArray)):List Rw:=rowsW x++(rowsDd s++(rowsFm g++rowsPh q))
def SmEv(x:Wd)(s:Sl Dd)(g:Sl Fm)(q:Sl (Sl ByteArray)):Prop:=SmW x∧SmDd s∧SmFm g∧SmPh q
def mDl(s:Sl Dd)(k:Int):Sl Dd:=⟨s.A,s.c,mDs s.l k⟩
def mFl(s:Sl Fm)(k:Int):Sl Fm:=⟨s.A,s.c,mL mFm cF s.l k⟩
def mPl(s:Sl (Sl ByteArray))(k:Int):Sl (Sl ByteArray):=⟨s.A,s.c,mL mS cP s.l k⟩
def cEv(x:Wd)(s:Sl Dd)(g:Sl Fm)(q:Sl (Sl ByteArray)):Int:=cW x+cDs s.l+cL cF g.l+cL cP q.l
theorem markEvidence_any(x:Wd)(s:Sl Dd)(g:Sl Fm)(q:Sl (Sl ByteArray))(k:Int)(w:World)(base:Nat)(h:OwA w base (rowsEv x s g q))(hs:SmEv x s g q)(h0:1≤k)(hk:k+cEv x s g q≤60000000) :
 Calls Tryz.prog 10 #[.agg #[.slice x.rs.A x.rs.l.length x.rs.c,.int .i64 x.fr,.int .i64 x.to_,.slice x.ps.A x.ps.l.length x.ps.c,.slice x.ts.A x.ts.l.length x.ts.c,.slice x.pl.A x.pl.l.length x.pl.c,.slice x.ws.A x.ws.l.length x.ws.c,.slice x.st.A x.st.l.length x.st.c,.slice x.se.A x.se.l.length x.se.c,.slice x.ha.A x.ha.l.length x.ha.c,.slice s.A s.l.length s.c,.slice g.A g.l.length g.c,.slice q.A q.l.length q.c],.int .i64 k] w fun e w'=>e=.returned (.int .i64 (k+cEv x s g q))∧MkA w w' (rowsEv x s g q) (rowsEv (mWd x (k)) (mDl s (k+cW x)) (mFl g (k+cW x+cDs s.l)) (mPl q (k+cW x+cDs s.l+cL cF g.l))):=by
 unfold cEv at hk ⊢
 obtain⟨n1,n2,n3,n4⟩:=hs
 have w1:=cW_nn x
 have w2:0≤cDs s.l:=cL_nn cD_nn s.l
 have w3:=cL_nn cF_nn g.l
 have w4:=cL_nn cP_nn q.l
 have qO:OwA w base (rowsW x++(rowsDd s++(rowsFm g++(rowsPh q)))):=h
 have hnew:=qO.new (Nat.le_refl w.heap.size)
 have hB:=Bx.new w #[.slice x.rs.A x.rs.l.length x.rs.c,.int .i64 x.fr,.int .i64 x.to_,.slice x.ps.A x.ps.l.length x.ps.c,.slice x.ts.A x.ts.l.length x.ts.c,.slice x.pl.A x.pl.l.length x.pl.c,.slice x.ws.A x.ws.l.length x.ws.c,.slice x.st.A x.st.l.length x.st.c,.slice x.se.A x.se.l.length x.se.c,.slice x.ha.A x.ha.l.length x.ha.c,.slice s.A s.l.length s.c,.slice g.A g.l.length g.c,.slice q.A q.l.length q.c] 63
 have u:=Up.alloc w (.cells #[.slice x.rs.A x.rs.l.length x.rs.c,.int .i64 x.fr,.int .i64 x.to_,.slice x.ps.A x.ps.l.length x.ps.c,.slice x.ts.A x.ts.l.length x.ts.c,.slice x.pl.A x.pl.l.length x.pl.c,.slice x.ws.A x.ws.l.length x.ws.c,.slice x.st.A x.st.l.length x.st.c,.slice x.se.A x.se.l.length x.se.c,.slice x.ha.A x.ha.l.length x.ha.c,.slice s.A s.l.length s.c,.slice g.A g.l.length g.c,.slice q.A q.l.length q.c] 63)
 replace qO:=qO.up u;go_enter Tryz.func10,Tryz.ntmps10
 go_wp2_with fail
 generalize w.alloc (.cells #[.slice x.rs.A x.rs.l.length x.rs.c,.int .i64 x.fr,.int .i64 x.to_,.slice x.ps.A x.ps.l.length x.ps.c,.slice x.ts.A x.ts.l.length x.ts.c,.slice x.pl.A x.pl.l.length x.pl.c,.slice x.ws.A x.ws.l.length x.ws.c,.slice x.st.A x.st.l.length x.st.c,.slice x.se.A x.se.l.length x.se.c,.slice x.ha.A x.ha.l.length x.ha.c,.slice s.A s.l.length s.c,.slice g.A g.l.length g.c,.slice q.A q.l.length q.c] 63)=w0 at *
 obtain⟨x0,x1,x2,x3,x4,x5,x6,x7,x8,x9,x10,x11,x12⟩:=hB.c13
 refine(markWorld_any x (k) _ base qO.left n1 (by omega) (by omega)).mono ?_
 rintro e w1 ⟨rfl,v1⟩
 replace hB:=hB.mka v1 (fun r hr=>hnew r (List.mem_append_left _ hr))
 replace qO:=((v1.left (rowsDd s++(rowsFm g++(rowsPh q)))).own qO).right
 obtain⟨x0,x1,x2,x3,x4,x5,x6,x7,x8,x9,x10,x11,x12⟩:=hB.c13
 go_wp2_with fail
 refine(markDeedS_any s (k+cW x) _ base qO.left n2 (by omega) (by omega)).mono ?_
 rintro e w2 ⟨rfl,v2⟩
 replace hB:=hB.mka v2 (fun r hr=>hnew r (List.mem_append_right _ (List.mem_append_left _ hr)))
 replace qO:=((v2.left (rowsFm g++(rowsPh q))).own qO).right
 obtain⟨x0,x1,x2,x3,x4,x5,x6,x7,x8,x9,x10,x11,x12⟩:=hB.c13
 go_wp2_with fail
 refine(markFormulaS_any g (k+cW x+cDs s.l) _ base qO.left n3 (by omega) (by omega)).mono ?_
 rintro e w3 ⟨rfl,v3⟩
 replace hB:=hB.mka v3 (fun r hr=>hnew r (List.mem_append_right _ (List.mem_append_right _ (List.mem_append_left _ hr))))
 replace qO:=((v3.left (rowsPh q)).own qO).right;obtain⟨x0,x1,x2,x3,x4,x5,x6,x7,x8,x9,x10,x11,x12⟩:=hB.c13
 go_wp2_with fail
 refine(markStringSS_any q (k+cW x+cDs s.l+cL cF g.l) _ base qO n4 (by omega) (by omega)).mono ?_
 rintro e w4 ⟨rfl,v4⟩
 replace hB:=hB.mka v4 (fun r hr=>hnew r (List.mem_append_right _ (List.mem_append_right _ (List.mem_append_right _ hr))))
 go_wp2;go_ret;exact⟨ret_int (by omega),(MkA.up u).trans (v1.both (v2.both (v3.both v4)))⟩
theorem toEvidence_any(x:Wd)(s:Sl Dd)(g:Sl Fm)(q:Sl (Sl ByteArray))(lo hi:Nat)(w:World)(h:RdW w lo hi x)(h2:RdDd w lo hi s)(h3:SrF w lo hi g)(h4:SrPh w lo hi q) :
 Calls Tryz.prog 6 #[.agg #[.slice x.rs.A x.rs.l.length x.rs.c,.int .i64 x.fr,.int .i64 x.to_,.slice x.ps.A x.ps.l.length x.ps.c,.slice x.ts.A x.ts.l.length x.ts.c,.slice x.pl.A x.pl.l.length x.pl.c,.slice x.ws.A x.ws.l.length x.ws.c,.slice x.st.A x.st.l.length x.st.c,.slice x.se.A x.se.l.length x.se.c,.slice x.ha.A x.ha.l.length x.ha.c,.slice s.A s.l.length s.c,.slice g.A g.l.length g.c,.slice q.A q.l.length q.c]] w fun e w'=>∃(y:Wd) (t:Sl Dd) (g':Sl Fm) (q':Sl (Sl ByteArray)),e=.returned (.agg #[.slice y.rs.A y.rs.l.length y.rs.c,.int .i64 y.fr,.int .i64 y.to_,.slice y.ps.A y.ps.l.length y.ps.c,.slice y.ts.A y.ts.l.length y.ts.c,.slice y.pl.A y.pl.l.length y.pl.c,.slice y.ws.A y.ws.l.length y.ws.c,.slice y.st.A y.st.l.length y.st.c,.slice y.se.A y.se.l.length y.se.c,.slice y.ha.A y.ha.l.length y.ha.c,.slice t.A t.l.length t.c,.slice g'.A g'.l.length g'.c,.slice q'.A q'.l.length q'.c])∧y.p=x.p∧t.l.map Dd.p=s.l.map Dd.p∧g'.l.map Fm.p=g.l.map Fm.p∧phP q'.l=phP q.l∧OwA w' w.heap.size (rowsEv y t g' q')∧Up w w':=by
 have u:Up w (((w.alloc (.cells #[.slice x.rs.A x.rs.l.length x.rs.c,.int .i64 x.fr,.int .i64 x.to_,.slice x.ps.A x.ps.l.length x.ps.c,.slice x.ts.A x.ts.l.length x.ts.c,.slice x.pl.A x.pl.l.length x.pl.c,.slice x.ws.A x.ws.l.length x.ws.c,.slice x.st.A x.st.l.length x.st.c,.slice x.se.A x.se.l.length x.se.c,.slice x.ha.A x.ha.l.length x.ha.c,.slice s.A s.l.length s.c,.slice g.A g.l.length g.c,.slice q.A q.l.length q.c] 41)).alloc (.cells #[.slice none 0 0,.int .i64 0,.int .i64 0,.slice none 0 0,.slice none 0 0,.slice none 0 0,.slice none 0 0,.slice none 0 0,.slice none 0 0,.slice none 0 0,.slice none 0 0,.slice none 0 0,.slice none 0 0] 63)).alloc (.cells #[.slice none 0 0,.int .i64 0,.int .i64 0,.slice none 0 0,.slice none 0 0,.slice none 0 0,.slice none 0 0,.slice none 0 0,.slice none 0 0,.slice none 0 0,.slice none 0 0,.slice none 0 0,.slice none 0 0] 63)):=((Up.alloc w _).allocs _).allocs _
 have hA:=((Bx.new w #[.slice x.rs.A x.rs.l.length x.rs.c,.int .i64 x.fr,.int .i64 x.to_,.slice x.ps.A x.ps.l.length x.ps.c,.slice x.ts.A x.ts.l.length x.ts.c,.slice x.pl.A x.pl.l.length x.pl.c,.slice x.ws.A x.ws.l.length x.ws.c,.slice x.st.A x.st.l.length x.st.c,.slice x.se.A x.se.l.length x.se.c,.slice x.ha.A x.ha.l.length x.ha.c,.slice s.A s.l.length s.c,.slice g.A g.l.length g.c,.slice q.A q.l.length q.c] 41).up (Up.alloc _ (.cells #[.slice none 0 0,.int .i64 0,.int .i64 0,.slice none 0 0,.slice none 0 0,.slice none 0 0,.slice none 0 0,.slice none 0 0,.slice none 0 0,.slice none 0 0,.slice none 0 0,.slice none 0 0,.slice none 0 0] 63))).up (Up.alloc _ (.cells #[.slice none 0 0,.int .i64 0,.int .i64 0,.slice none 0 0,.slice none 0 0,.slice none 0 0,.slice none 0 0,.slice none 0 0,.slice none 0 0,.slice none 0 0,.slice none 0 0,.slice none 0 0,.slice none 0 0] 63))
 have hR:Bx (((w.alloc (.cells #[.slice x.rs.A x.rs.l.length x.rs.c,.int .i64 x.fr,.int .i64 x.to_,.slice x.ps.A x.ps.l.length x.ps.c,.slice x.ts.A x.ts.l.length x.ts.c,.slice x.pl.A x.pl.l.length x.pl.c,.slice x.ws.A x.ws.l.length x.ws.c,.slice x.st.A x.st.l.length x.st.c,.slice x.se.A x.se.l.length x.se.c,.slice x.ha.A x.ha.l.length x.ha.c,.slice s.A s.l.length s.c,.slice g.A g.l.length g.c,.slice q.A q.l.length q.c] 41)).alloc (.cells #[.slice none 0 0,.int .i64 0,.int .i64 0,.slice none 0 0,.slice none 0 0,.slice none 0 0,.slice none 0 0,.slice none 0 0,.slice none 0 0,.slice none 0 0,.slice none 0 0,.slice none 0 0,.slice none 0 0] 63)).alloc (.cells #[.slice none 0 0,.int .i64 0,.int .i64 0,.slice none 0 0,.slice none 0 0,.slice none 0 0,.slice none 0 0,.slice none 0 0,.slice none 0 0,.slice none 0 0,.slice none 0 0,.slice none 0 0,.slice none 0 0] 63)) (w.heap.size+1) [.slice none 0 0,.int .i64 0,.int .i64 0,.slice none 0 0,.slice none 0 0,.slice none 0 0,.slice none 0 0,.slice none 0 0,.slice none 0 0,.slice none 0 0,.slice none 0 0,.slice none 0 0,.slice none 0 0]:=by
  have:=(Bx.new (w.alloc (.cells #[.slice x.rs.A x.rs.l.length x.rs.c,.int .i64 x.fr,.int .i64 x.to_,.slice x.ps.A x.ps.l.length x.ps.c,.slice x.ts.A x.ts.l.length x.ts.c,.slice x.pl.A x.pl.l.length x.pl.c,.slice x.ws.A x.ws.l.length x.ws.c,.slice x.st.A x.st.l.length x.st.c,.slice x.se.A x.se.l.length x.se.c,.slice x.ha.A x.ha.l.length x.ha.c,.slice s.A s.l.length s.c,.slice g.A g.l.length g.c,.slice q.A q.l.length q.c] 41)) #[.slice none 0 0,.int .i64 0,.int .i64 0,.slice none 0 0,.slice none 0 0,.slice none 0 0,.slice none 0 0,.slice none 0 0,.slice none 0 0,.slice none 0 0,.slice none 0 0,.slice none 0 0,.slice none 0 0] 63).up (Up.alloc _ (.cells #[.slice none 0 0,.int .i64 0,.int .i64 0,.slice none 0 0,.slice none 0 0,.slice none 0 0,.slice none 0 0,.slice none 0 0,.slice none 0 0,.slice none 0 0,.slice none 0 0,.slice none 0 0,.slice none 0 0] 63))
  simpa using this
 have hO:Bx (((w.alloc (.cells #[.slice x.rs.A x.rs.l.length x.rs.c,.int .i64 x.fr,.int .i64 x.to_,.slice x.ps.A x.ps.l.length x.ps.c,.slice x.ts.A x.ts.l.length x.ts.c,.slice x.pl.A x.pl.l.length x.pl.c,.slice x.ws.A x.ws.l.length x.ws.c,.slice x.st.A x.st.l.length x.st.c,.slice x.se.A x.se.l.length x.se.c,.slice x.ha.A x.ha.l.length x.ha.c,.slice s.A s.l.length s.c,.slice g.A g.l.length g.c,.slice q.A q.l.length q.c] 41)).alloc (.cells #[.slice none 0 0,.int .i64 0,.int .i64 0,.slice none 0 0,.slice none 0 0,.slice none 0 0,.slice none 0 0,.slice none 0 0,.slice none 0 0,.slice none 0 0,.slice none 0 0,.slice none 0 0,.slice none 0 0] 63)).alloc (.cells #[.slice none 0 0,.int .i64 0,.int .i64 0,.slice none 0 0,.slice none 0 0,.slice none 0 0,.slice none 0 0,.slice none 0 0,.slice none 0 0,.slice none 0 0,.slice none 0 0,.slice none 0 0,.slice none 0 0] 63)) (w.heap.size+1+1) [.slice none 0 0,.int .i64 0,.int .i64 0,.slice none 0 0,.slice none 0 0,.slice none 0 0,.slice none 0 0,.slice none 0 0,.slice none 0 0,.slice none 0 0,.slice none 0 0,.slice none 0 0,.slice none 0 0]:=by
  have:=Bx.new ((w.alloc (.cells #[.slice x.rs.A x.rs.l.length x.rs.c,.int .i64 x.fr,.int .i64 x.to_,.slice x.ps.A x.ps.l.length x.ps.c,.slice x.ts.A x.ts.l.length x.ts.c,.slice x.pl.A x.pl.l.length x.pl.c,.slice x.ws.A x.ws.l.length x.ws.c,.slice x.st.A x.st.l.length x.st.c,.slice x.se.A x.se.l.length x.se.c,.slice x.ha.A x.ha.l.length x.ha.c,.slice s.A s.l.length s.c,.slice g.A g.l.length g.c,.slice q.A q.l.length q.c] 41)).alloc (.cells #[.slice none 0 0,.int .i64 0,.int .i64 0,.slice none 0 0,.slice none 0 0,.slice none 0 0,.slice none 0 0,.slice none 0 0,.slice none 0 0,.slice none 0 0,.slice none 0 0,.slice none 0 0,.slice none 0 0] 63)) #[.slice none 0 0,.int .i64 0,.int .i64 0,.slice none 0 0,.slice none 0 0,.slice none 0 0,.slice none 0 0,.slice none 0 0,.slice none 0 0,.slice none 0 0,.slice none 0 0,.slice none 0 0,.slice none 0 0] 63
  simpa using this
 have hsz:w.heap.size+3≤(((w.alloc (.cells #[.slice x.rs.A x.rs.l.length x.rs.c,.int .i64 x.fr,.int .i64 x.to_,.slice x.ps.A x.ps.l.length x.ps.c,.slice x.ts.A x.ts.l.length x.ts.c,.slice x.pl.A x.pl.l.length x.pl.c,.slice x.ws.A x.ws.l.length x.ws.c,.slice x.st.A x.st.l.length x.st.c,.slice x.se.A x.se.l.length x.se.c,.slice x.ha.A x.ha.l.length x.ha.c,.slice s.A s.l.length s.c,.slice g.A g.l.length g.c,.slice q.A q.l.length q.c] 41)).alloc (.cells #[.slice none 0 0,.int .i64 0,.int .i64 0,.slice none 0 0,.slice none 0 0,.slice none 0 0,.slice none 0 0,.slice none 0 0,.slice none 0 0,.slice none 0 0,.slice none 0 0,.slice none 0 0,.slice none 0 0] 63)).alloc (.cells #[.slice none 0 0,.int .i64 0,.int .i64 0,.slice none 0 0,.slice none 0 0,.slice none 0 0,.slice none 0 0,.slice none 0 0,.slice none 0 0,.slice none 0 0,.slice none 0 0,.slice none 0 0,.slice none 0 0] 63)).heap.size:=by simp
 have oA:=OwA.nil_ (((w.alloc (.cells #[.slice x.rs.A x.rs.l.length x.rs.c,.int .i64 x.fr,.int .i64 x.to_,.slice x.ps.A x.ps.l.length x.ps.c,.slice x.ts.A x.ts.l.length x.ts.c,.slice x.pl.A x.pl.l.length x.pl.c,.slice x.ws.A x.ws.l.length x.ws.c,.slice x.st.A x.st.l.length x.st.c,.slice x.se.A x.se.l.length x.se.c,.slice x.ha.A x.ha.l.length x.ha.c,.slice s.A s.l.length s.c,.slice g.A g.l.length g.c,.slice q.A q.l.length q.c] 41)).alloc (.cells #[.slice none 0 0,.int .i64 0,.int .i64 0,.slice none 0 0,.slice none 0 0,.slice none 0 0,.slice none 0 0,.slice none 0 0,.slice none 0 0,.slice none 0 0,.slice none 0 0,.slice none 0 0,.slice none 0 0] 63)).alloc (.cells #[.slice none 0 0,.int .i64 0,.int .i64 0,.slice none 0 0,.slice none 0 0,.slice none 0 0,.slice none 0 0,.slice none 0 0,.slice none 0 0,.slice none 0 0,.slice none 0 0,.slice none 0 0,.slice none 0 0] 63)) (w.heap.size+3)
 go_enter Tryz.func6,Tryz.ntmps6
 go_wp2_with fail
 generalize (((w.alloc (.cells #[.slice x.rs.A x.rs.l.length x.rs.c,.int .i64 x.fr,.int .i64 x.to_,.slice x.ps.A x.ps.l.length x.ps.c,.slice x.ts.A x.ts.l.length x.ts.c,.slice x.pl.A x.pl.l.length x.pl.c,.slice x.ws.A x.ws.l.length x.ws.c,.slice x.st.A x.st.l.length x.st.c,.slice x.se.A x.se.l.length x.se.c,.slice x.ha.A x.ha.l.length x.ha.c,.slice s.A s.l.length s.c,.slice g.A g.l.length g.c,.slice q.A q.l.length q.c] 41)).alloc (.cells #[.slice none 0 0,.int .i64 0,.int .i64 0,.slice none 0 0,.slice none 0 0,.slice none 0 0,.slice none 0 0,.slice none 0 0,.slice none 0 0,.slice none 0 0,.slice none 0 0,.slice none 0 0,.slice none 0 0] 63)).alloc (.cells #[.slice none 0 0,.int .i64 0,.int .i64 0,.slice none 0 0,.slice none 0 0,.slice none 0 0,.slice none 0 0,.slice none 0 0,.slice none 0 0,.slice none 0 0,.slice none 0 0,.slice none 0 0,.slice none 0 0] 63))=w0 at *
 refine(toWorld_any x lo hi _ (h.up u)).mono ?_
 rintro e v1 ⟨y,rfl,e_y,oN,v⟩
 have E_y:=qh e_y
 clear e_y;replace oA:=oA.append v hsz (oN);replace u:=u.trans v;replace hA:=hA.up v;replace hR:=hR.up v;replace hO:=hO.up v;replace hsz:=Nat.le_trans hsz v.size;clear v;obtain⟨x0,x1,x2,x3,x4,x5,x6,x7,x8,x9,x10,x11,x12⟩:=hA.c13
 obtain⟨y0,y1,y2,y3,y4,y5,y6,y7,y8,y9,y10,y11,y12⟩:=hO.c13
 obtain⟨f0,f1,f2,f3,f4,f5,f6,f7,f8,f9,f10,f11,f12⟩:=hO.f13
 obtain⟨z0,z1,z2,z3,z4,z5,z6,z7,z8,z9,z10,z11,z12⟩:=hR.c13
 obtain⟨g0,g1,g2,g3,g4,g5,g6,g7,g8,g9,g10,g11,g12⟩:=hR.f13
 replace hO:=hO.put 0 (.slice y.rs.A y.rs.l.length y.rs.c);replace hA:=hA.other (b':=w.heap.size+1+1) (by omega) 0 (.slice y.rs.A y.rs.l.length y.rs.c)
 replace hR:=hR.other (b':=w.heap.size+1+1) (by omega) 0 (.slice y.rs.A y.rs.l.length y.rs.c)
 replace oA:=oA.put (p:=⟨w.heap.size+1+1,0,none⟩) (show w.heap.size+1+1<w.heap.size+3 by omega) (.slice y.rs.A y.rs.l.length y.rs.c)
 replace u:=u.setCell (p:=⟨w.heap.size+1+1,0,none⟩) (show w.heap.size≤w.heap.size+1+1 by omega) (.slice y.rs.A y.rs.l.length y.rs.c)
 replace hO:=hO.put 1 (.int .i64 y.fr);replace hA:=hA.other (b':=w.heap.size+1+1) (by omega) 1 (.int .i64 y.fr)
 replace hR:=hR.other (b':=w.heap.size+1+1) (by omega) 1 (.int .i64 y.fr)
 replace oA:=oA.put (p:=⟨w.heap.size+1+1,1,none⟩) (show w.heap.size+1+1<w.heap.size+3 by omega) (.int .i64 y.fr)
 replace u:=u.setCell (p:=⟨w.heap.size+1+1,1,none⟩) (show w.heap.size≤w.heap.size+1+1 by omega) (.int .i64 y.fr)
 replace hO:=hO.put 2 (.int .i64 y.to_);replace hA:=hA.other (b':=w.heap.size+1+1) (by omega) 2 (.int .i64 y.to_)
 replace hR:=hR.other (b':=w.heap.size+1+1) (by omega) 2 (.int .i64 y.to_)
 replace oA:=oA.put (p:=⟨w.heap.size+1+1,2,none⟩) (show w.heap.size+1+1<w.heap.size+3 by omega) (.int .i64 y.to_)
 replace u:=u.setCell (p:=⟨w.heap.size+1+1,2,none⟩) (show w.heap.size≤w.heap.size+1+1 by omega) (.int .i64 y.to_)
 replace hO:=hO.put 3 (.slice y.ps.A y.ps.l.length y.ps.c);replace hA:=hA.other (b':=w.heap.size+1+1) (by omega) 3 (.slice y.ps.A y.ps.l.length y.ps.c)
 replace hR:=hR.other (b':=w.heap.size+1+1) (by omega) 3 (.slice y.ps.A y.ps.l.length y.ps.c)
 replace oA:=oA.put (p:=⟨w.heap.size+1+1,3,none⟩) (show w.heap.size+1+1<w.heap.size+3 by omega) (.slice y.ps.A y.ps.l.length y.ps.c)
 replace u:=u.setCell (p:=⟨w.heap.size+1+1,3,none⟩) (show w.heap.size≤w.heap.size+1+1 by omega) (.slice y.ps.A y.ps.l.length y.ps.c)
 replace hO:=hO.put 4 (.slice y.ts.A y.ts.l.length y.ts.c);replace hA:=hA.other (b':=w.heap.size+1+1) (by omega) 4 (.slice y.ts.A y.ts.l.length y.ts.c)
 replace hR:=hR.other (b':=w.heap.size+1+1) (by omega) 4 (.slice y.ts.A y.ts.l.length y.ts.c)
 replace oA:=oA.put (p:=⟨w.heap.size+1+1,4,none⟩) (show w.heap.size+1+1<w.heap.size+3 by omega) (.slice y.ts.A y.ts.l.length y.ts.c)
 replace u:=u.setCell (p:=⟨w.heap.size+1+1,4,none⟩) (show w.heap.size≤w.heap.size+1+1 by omega) (.slice y.ts.A y.ts.l.length y.ts.c)
 replace hO:=hO.put 5 (.slice y.pl.A y.pl.l.length y.pl.c);replace hA:=hA.other (b':=w.heap.size+1+1) (by omega) 5 (.slice y.pl.A y.pl.l.length y.pl.c)
 replace hR:=hR.other (b':=w.heap.size+1+1) (by omega) 5 (.slice y.pl.A y.pl.l.length y.pl.c)
 replace oA:=oA.put (p:=⟨w.heap.size+1+1,5,none⟩) (show w.heap.size+1+1<w.heap.size+3 by omega) (.slice y.pl.A y.pl.l.length y.pl.c)
 replace u:=u.setCell (p:=⟨w.heap.size+1+1,5,none⟩) (show w.heap.size≤w.heap.size+1+1 by omega) (.slice y.pl.A y.pl.l.length y.pl.c)
 replace hO:=hO.put 6 (.slice y.ws.A y.ws.l.length y.ws.c);replace hA:=hA.other (b':=w.heap.size+1+1) (by omega) 6 (.slice y.ws.A y.ws.l.length y.ws.c)
 replace hR:=hR.other (b':=w.heap.size+1+1) (by omega) 6 (.slice y.ws.A y.ws.l.length y.ws.c)
 replace oA:=oA.put (p:=⟨w.heap.size+1+1,6,none⟩) (show w.heap.size+1+1<w.heap.size+3 by omega) (.slice y.ws.A y.ws.l.length y.ws.c)
 replace u:=u.setCell (p:=⟨w.heap.size+1+1,6,none⟩) (show w.heap.size≤w.heap.size+1+1 by omega) (.slice y.ws.A y.ws.l.length y.ws.c)
 replace hO:=hO.put 7 (.slice y.st.A y.st.l.length y.st.c);replace hA:=hA.other (b':=w.heap.size+1+1) (by omega) 7 (.slice y.st.A y.st.l.length y.st.c)
 replace hR:=hR.other (b':=w.heap.size+1+1) (by omega) 7 (.slice y.st.A y.st.l.length y.st.c)
 replace oA:=oA.put (p:=⟨w.heap.size+1+1,7,none⟩) (show w.heap.size+1+1<w.heap.size+3 by omega) (.slice y.st.A y.st.l.length y.st.c)
 replace u:=u.setCell (p:=⟨w.heap.size+1+1,7,none⟩) (show w.heap.size≤w.heap.size+1+1 by omega) (.slice y.st.A y.st.l.length y.st.c)
 replace hO:=hO.put 8 (.slice y.se.A y.se.l.length y.se.c);replace hA:=hA.other (b':=w.heap.size+1+1) (by omega) 8 (.slice y.se.A y.se.l.length y.se.c)
 replace hR:=hR.other (b':=w.heap.size+1+1) (by omega) 8 (.slice y.se.A y.se.l.length y.se.c)
 replace oA:=oA.put (p:=⟨w.heap.size+1+1,8,none⟩) (show w.heap.size+1+1<w.heap.size+3 by omega) (.slice y.se.A y.se.l.length y.se.c)
 replace u:=u.setCell (p:=⟨w.heap.size+1+1,8,none⟩) (show w.heap.size≤w.heap.size+1+1 by omega) (.slice y.se.A y.se.l.length y.se.c)
 replace hO:=hO.put 9 (.slice y.ha.A y.ha.l.length y.ha.c);replace hA:=hA.other (b':=w.heap.size+1+1) (by omega) 9 (.slice y.ha.A y.ha.l.length y.ha.c)
 replace hR:=hR.other (b':=w.heap.size+1+1) (by omega) 9 (.slice y.ha.A y.ha.l.length y.ha.c)
 replace oA:=oA.put (p:=⟨w.heap.size+1+1,9,none⟩) (show w.heap.size+1+1<w.heap.size+3 by omega) (.slice y.ha.A y.ha.l.length y.ha.c)
 replace u:=u.setCell (p:=⟨w.heap.size+1+1,9,none⟩) (show w.heap.size≤w.heap.size+1+1 by omega) (.slice y.ha.A y.ha.l.length y.ha.c)
 have hsz:w.heap.size+3≤((((((((((v1.setCell ⟨w.heap.size+1+1,0,none⟩ (.slice y.rs.A y.rs.l.length y.rs.c)).setCell ⟨w.heap.size+1+1,1,none⟩ (.int .i64 y.fr)).setCell ⟨w.heap.size+1+1,2,none⟩ (.int .i64 y.to_)).setCell ⟨w.heap.size+1+1,3,none⟩ (.slice y.ps.A y.ps.l.length y.ps.c)).setCell ⟨w.heap.size+1+1,4,none⟩ (.slice y.ts.A y.ts.l.length y.ts.c)).setCell ⟨w.heap.size+1+1,5,none⟩ (.slice y.pl.A y.pl.l.length y.pl.c)).setCell ⟨w.heap.size+1+1,6,none⟩ (.slice y.ws.A y.ws.l.length y.ws.c)).setCell ⟨w.heap.size+1+1,7,none⟩ (.slice y.st.A y.st.l.length y.st.c)).setCell ⟨w.heap.size+1+1,8,none⟩ (.slice y.se.A y.se.l.length y.se.c)).setCell ⟨w.heap.size+1+1,9,none⟩ (.slice y.ha.A y.ha.l.length y.ha.c)).heap.size:=by simpa using hsz
 go_wp2_with fail
 generalize ((((((((((v1.setCell ⟨w.heap.size+1+1,0,none⟩ (.slice y.rs.A y.rs.l.length y.rs.c)).setCell ⟨w.heap.size+1+1,1,none⟩ (.int .i64 y.fr)).setCell ⟨w.heap.size+1+1,2,none⟩ (.int .i64 y.to_)).setCell ⟨w.heap.size+1+1,3,none⟩ (.slice y.ps.A y.ps.l.length y.ps.c)).setCell ⟨w.heap.size+1+1,4,none⟩ (.slice y.ts.A y.ts.l.length y.ts.c)).setCell ⟨w.heap.size+1+1,5,none⟩ (.slice y.pl.A y.pl.l.length y.pl.c)).setCell ⟨w.heap.size+1+1,6,none⟩ (.slice y.ws.A y.ws.l.length y.ws.c)).setCell ⟨w.heap.size+1+1,7,none⟩ (.slice y.st.A y.st.l.length y.st.c)).setCell ⟨w.heap.size+1+1,8,none⟩ (.slice y.se.A y.se.l.length y.se.c)).setCell ⟨w.heap.size+1+1,9,none⟩ (.slice y.ha.A y.ha.l.length y.ha.c))=w2 at *
 refine(toDeedS_any s lo hi _ (h2.up u)).mono ?_
 rintro e v3 ⟨t,rfl,e_t,oN,v⟩
 have E_t:=qh e_t
 clear e_t;replace oA:=oA.append v hsz (oN);replace u:=u.trans v;replace hA:=hA.up v;replace hR:=hR.up v;replace hO:=hO.up v;replace hsz:=Nat.le_trans hsz v.size;clear v;obtain⟨x0,x1,x2,x3,x4,x5,x6,x7,x8,x9,x10,x11,x12⟩:=hA.c13
 obtain⟨y0,y1,y2,y3,y4,y5,y6,y7,y8,y9,y10,y11,y12⟩:=hO.c13
 obtain⟨f0,f1,f2,f3,f4,f5,f6,f7,f8,f9,f10,f11,f12⟩:=hO.f13
 obtain⟨z0,z1,z2,z3,z4,z5,z6,z7,z8,z9,z10,z11,z12⟩:=hR.c13
 obtain⟨g0,g1,g2,g3,g4,g5,g6,g7,g8,g9,g10,g11,g12⟩:=hR.f13
 replace hO:=hO.put 10 (.slice t.A t.l.length t.c);replace hA:=hA.other (b':=w.heap.size+1+1) (by omega) 10 (.slice t.A t.l.length t.c)
 replace hR:=hR.other (b':=w.heap.size+1+1) (by omega) 10 (.slice t.A t.l.length t.c)
 replace oA:=oA.put (p:=⟨w.heap.size+1+1,10,none⟩) (show w.heap.size+1+1<w.heap.size+3 by omega) (.slice t.A t.l.length t.c)
 replace u:=u.setCell (p:=⟨w.heap.size+1+1,10,none⟩) (show w.heap.size≤w.heap.size+1+1 by omega) (.slice t.A t.l.length t.c)
 have hsz:w.heap.size+3≤(v3.setCell ⟨w.heap.size+1+1,10,none⟩ (.slice t.A t.l.length t.c)).heap.size:=by simpa using hsz
 go_wp2_with fail
 generalize (v3.setCell ⟨w.heap.size+1+1,10,none⟩ (.slice t.A t.l.length t.c))=w4 at *
 refine(toFormS_w g lo hi _ (h3.up u)).mono ?_
 rintro e v5 ⟨g',rfl,e_g,oN,v⟩
 have E_g:=qh e_g
 clear e_g;replace oA:=oA.append v hsz (oN);replace u:=u.trans v;replace hA:=hA.up v;replace hR:=hR.up v;replace hO:=hO.up v;replace hsz:=Nat.le_trans hsz v.size;clear v;obtain⟨x0,x1,x2,x3,x4,x5,x6,x7,x8,x9,x10,x11,x12⟩:=hA.c13
 obtain⟨y0,y1,y2,y3,y4,y5,y6,y7,y8,y9,y10,y11,y12⟩:=hO.c13
 obtain⟨f0,f1,f2,f3,f4,f5,f6,f7,f8,f9,f10,f11,f12⟩:=hO.f13
 obtain⟨z0,z1,z2,z3,z4,z5,z6,z7,z8,z9,z10,z11,z12⟩:=hR.c13
 obtain⟨g0,g1,g2,g3,g4,g5,g6,g7,g8,g9,g10,g11,g12⟩:=hR.f13
 replace hO:=hO.put 11 (.slice g'.A g'.l.length g'.c)
 replace hA:=hA.other (b':=w.heap.size+1+1) (by omega) 11 (.slice g'.A g'.l.length g'.c)
 replace hR:=hR.other (b':=w.heap.size+1+1) (by omega) 11 (.slice g'.A g'.l.length g'.c)
 replace oA:=oA.put (p:=⟨w.heap.size+1+1,11,none⟩) (show w.heap.size+1+1<w.heap.size+3 by omega) (.slice g'.A g'.l.length g'.c)
 replace u:=u.setCell (p:=⟨w.heap.size+1+1,11,none⟩) (show w.heap.size≤w.heap.size+1+1 by omega) (.slice g'.A g'.l.length g'.c)
 have hsz:w.heap.size+3≤(v5.setCell ⟨w.heap.size+1+1,11,none⟩ (.slice g'.A g'.l.length g'.c)).heap.size:=by simpa using hsz
 go_wp2_with fail
 generalize (v5.setCell ⟨w.heap.size+1+1,11,none⟩ (.slice g'.A g'.l.length g'.c))=w6 at *
 refine(toStringSS_any q lo hi _ (h4.up u)).mono ?_
 rintro e v7 ⟨q',rfl,e_q,oN,v⟩
 have E_q:=qh e_q
 clear e_q;replace oA:=oA.append v hsz (oN);replace u:=u.trans v;replace hA:=hA.up v;replace hR:=hR.up v;replace hO:=hO.up v;replace hsz:=Nat.le_trans hsz v.size;clear v;obtain⟨x0,x1,x2,x3,x4,x5,x6,x7,x8,x9,x10,x11,x12⟩:=hA.c13
 obtain⟨y0,y1,y2,y3,y4,y5,y6,y7,y8,y9,y10,y11,y12⟩:=hO.c13
 obtain⟨f0,f1,f2,f3,f4,f5,f6,f7,f8,f9,f10,f11,f12⟩:=hO.f13
 obtain⟨z0,z1,z2,z3,z4,z5,z6,z7,z8,z9,z10,z11,z12⟩:=hR.c13
 obtain⟨g0,g1,g2,g3,g4,g5,g6,g7,g8,g9,g10,g11,g12⟩:=hR.f13
 go_wp2;refine bodyPost_ret (v:=.agg #[.slice y.rs.A y.rs.l.length y.rs.c,.int .i64 y.fr,.int .i64 y.to_,.slice y.ps.A y.ps.l.length y.ps.c,.slice y.ts.A y.ts.l.length y.ts.c,.slice y.pl.A y.pl.l.length y.pl.c,.slice y.ws.A y.ws.l.length y.ws.c,.slice y.st.A y.st.l.length y.st.c,.slice y.se.A y.se.l.length y.se.c,.slice y.ha.A y.ha.l.length y.ha.c,.slice t.A t.l.length t.c,.slice g'.A g'.l.length g'.c,.slice q'.A q'.l.length q'.c]) (by simp[results,Tryz.results6,go_sem,z0,z1,z2,z3,z4,z5,z6,z7,z8,z9,z10,z11,z12]) rfl ?_
 refine⟨y,t,g',q',rfl,E_y.out,E_t.out,E_g.out,E_q.out,?_,?_⟩
 ·refine OwA.base (b:=w.heap.size+3) ?_ (by omega)
  iterate 14 refine OwA.put ?_ (by first|(simp;done)|(simp;omega)) _
  simpa[rowsEv] using oA
 ·iterate 14 refine Up.setCell ?_ (by first|(simp;done)|(simp;omega)) _
  exact u
end Go.Proofs.YtihcmhmanfobcaaGreatDoor
