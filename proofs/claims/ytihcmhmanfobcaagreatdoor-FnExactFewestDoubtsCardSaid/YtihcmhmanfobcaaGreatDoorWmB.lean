/- The law package's copies of chanceries, people, lands, worlds, deeds, phrases and evidence: each slice in a block of its own. -/
import Derived.Test.YtihcmhmanfobcaaGreatDoorLib
import Derived.Test.YtihcmhmanfobcaaGreatDoorVl
import Derived.Test.YtihcmhmanfobcaaGreatDoorVa
set_option maxHeartbeats 4000000
set_option maxRecDepth 100000
namespace Go.Proofs.YtihcmhmanfobcaaGreatDoor
open Go.RowKit Go.Sort
abbrev rwReign(s:Sl Nm):Rw:=⟨233,3,s.val,s.l.length,s.l.flatMap Nm.cells⟩
abbrev rwPerson(s:Sl Nm):Rw:=⟨229,3,s.val,s.l.length,s.l.flatMap Nm.cells⟩
abbrev rwMark(s:Sl Nm):Rw:=⟨174,3,s.val,s.l.length,s.l.flatMap Nm.cells⟩
abbrev rwTerm(s:Sl Tm):Rw:=⟨236,4,s.val,s.l.length,s.l.flatMap Tm.cells⟩
abbrev rwWay(s:Sl I3):Rw:=⟨232,3,s.val,s.l.length,s.l.flatMap I3.cells⟩
abbrev rwStay(s:Sl I3):Rw:=⟨172,3,s.val,s.l.length,s.l.flatMap I3.cells⟩
abbrev rwClause(s:Sl Cl):Rw:=⟨209,8,s.val,s.l.length,s.l.flatMap Cl.cells⟩
abbrev rwWitness(s:Sl Wi):Rw:=⟨167,2,s.val,s.l.length,s.l.flatMap Wi.cells⟩
abbrev rwStr(s:Sl ByteArray):Rw:=⟨9,1,s.val,s.l.length,s.l.flatMap strC⟩
abbrev rwDeed(s:Sl Dd):Rw:=⟨81,7,s.val,s.l.length,s.l.flatMap Dd.cells⟩
abbrev rwForm(s:Sl Fm):Rw:=⟨130,3,s.val,s.l.length,s.l.flatMap Fm.cells⟩
abbrev rwPhr(s:Sl (Sl ByteArray)):Rw:=⟨29,1,s.val,s.l.length,s.l.flatMap phC⟩
abbrev rwWords(x:Fm):Rw:=⟨9,1,x.sl,x.ws.length,x.ws.flatMap strC⟩
def rowsW(x:Wd):List Rw:=[rwReign x.rs,rwPerson x.ps,rwTerm x.ts,rwStr x.pl,rwWay x.ws,rwStay x.st,rwMark x.se,rwMark x.ha]
def rowsE(d:Dd):List Rw:=[rwClause d.da,rwWitness d.wi,rwStr d.ci]
def rowsDd(s:Sl Dd):List Rw:=rwDeed s :: s.l.flatMap rowsE
def rowsFm(g:Sl Fm):List Rw:=rwForm g :: g.l.map rwWords
def rowsPh(q:Sl (Sl ByteArray)):List Rw:=rwPhr q :: q.l.map rwStr
theorem OwA.cons{w:World}{base B:Nat}{r:Rw}{L:List Rw}(h:r.own w base)(hb:∀g,r.v.ownBlock=some g→g<B)(k:OwA w B L)(hB:base≤B):OwA w base (r :: L):=by
 refine⟨fun q hq=>?_,List.pairwise_cons.2 ⟨fun b hb' g hg e=>?_,k.ap⟩⟩
 ·rcases List.mem_cons.1 hq with rfl|h1
  ·exact h
  ·exact own_base (k.each q h1) hB
 ·have h1:=hb g hg
  have h2:=(k.lt hb' e).1
  omega
theorem OwA.rdW{w w0:World}{b lo hi:Nat}{x y:Wd}(h:OwA w b (rowsW x))(e:x.p=y.p)(k:RdW w0 lo hi y):RdW w b w.heap.size x:=by
 simp only[Wd.p,Pw.mk.injEq]at e
 obtain⟨e1,-,-,e2,e3,e4,e5,e6,e7,e8⟩:=e
 have f:=fun r hr=>h.each r hr
 simp only[rowsW,List.mem_cons,List.not_mem_nil,or_false,forall_eq_or_imp,forall_eq]at f
 obtain⟨h1,h2,h3,h4,h5,h6,h7,h8⟩:=f
 exact⟨Sr.own Nm.len h1 (by rw[e1];exact k.rs.len) (by rw[e1];exact k.rs.ok),Sr.own Nm.len h2 (by rw[e2];exact k.ps.len) (by rw[e2];exact k.ps.ok),Sr.own Tm.len h3 (by rw[e3];exact k.ts.len) (by rw[e3];exact k.ts.ok),Sr.own strC_len h4 (by rw[e4];exact k.pl.len) (by rw[e4];exact k.pl.ok),Sr.own I3.len h5 (by rw[e5];exact k.ws.len) (by rw[e5];exact k.ws.ok),Sr.own I3.len h6 (by rw[e6];exact k.st.len) (by rw[e6];exact k.st.ok),Sr.own Nm.len h7 (by rw[e7];exact k.se.len) (by rw[e7];exact k.se.ok),Sr.own Nm.len h8 (by rw[e8];exact k.ha.len) (by rw[e8];exact k.ha.ok)⟩
theorem OwA.rdE{w w0:World}{b lo hi:Nat}{x y:Dd}(h:OwA w b (rowsE x))(e:x.p=y.p)(k:RdE w0 lo hi y):RdE w b w.heap.size x:=by
 simp only[Dd.p,Pd.mk.injEq]at e
 obtain⟨e1,e2,e3,e4,e5,e6,e7⟩:=e
 have f:=fun r hr=>h.each r hr
 simp only[rowsE,List.mem_cons,List.not_mem_nil,or_false,forall_eq_or_imp,forall_eq]at f
 obtain⟨h1,h2,h3⟩:=f
 exact⟨by rw[e1];exact k.nm,Sr.own Cl.len h1 (by rw[e2];exact k.da.len) (by rw[e2];exact k.da.ok),Sr.own Wi.len h2 (by rw[e3];exact k.wi.len) (by rw[e3];exact k.wi.ok),by rw[e4];exact k.pl,by rw[e5];exact k.se,by rw[e6];exact k.ha,Sr.own strC_len h3 (by rw[e7];exact k.ci.len) (by rw[e7];exact k.ci.ok)⟩
theorem OwA.rdDd{w w0:World}{b lo hi:Nat}{x y:Sl Dd}(h:OwA w b (rowsDd x))(e:x.l.map Dd.p=y.l.map Dd.p)(k:RdDd w0 lo hi y):RdDd w b w.heap.size x:=by
 have h1:w.ownsRow b 81 7 x.val x.l.length (x.l.flatMap Dd.cells):=h.each (rwDeed x) (by simp[rowsDd])
 refine⟨Rd.own Dd.len h1,Nat.le_refl _,by rw[show x.l.length=y.l.length by simpa using congrArg List.length e];exact k.len,fun d hd=>?_,own_cap h1⟩
 have h2:d.p∈y.l.map Dd.p:=by rw[← e];exact List.mem_map_of_mem hd
 obtain⟨z,hz,e2⟩:=List.mem_map.1 h2
 have h3:OwA w b (rowsE d):=⟨fun r hr=>h.each r (by simp only[rowsDd,List.mem_cons,List.mem_flatMap];exact .inr ⟨d,hd,hr⟩),by
  have:=(List.pairwise_cons.1 h.ap).2
  exact(List.pairwise_flatMap.1 this).1 d hd⟩
 exact OwA.rdE h3 e2.symm (k.each z hz)
theorem OwA.rdPh{w w0:World}{b lo hi:Nat}{x y:Sl (Sl ByteArray)}(h:OwA w b (rowsPh x))(e:phP x.l=phP y.l)(k:SrPh w0 lo hi y):SrPh w b w.heap.size x:=by
 have h0:w.ownsRow b 29 1 x.val x.l.length (x.l.flatMap phC):=h.each (rwPhr x) (by simp[rowsPh])
 refine⟨Rd.own phC_len h0,Nat.le_refl _,by rw[show x.l.length=y.l.length by simpa using congrArg List.length e];exact k.len,fun d hd=>?_,own_cap h0⟩
 have h1:d.l∈phP y.l:=by rw[← e];exact List.mem_map_of_mem hd
 obtain⟨z,hz,e2⟩:=List.mem_map.1 h1
 have h2:w.ownsRow b 9 1 d.val d.l.length (d.l.flatMap strC):=h.each (rwStr d) (by simp only[rowsPh,List.mem_cons,List.mem_map];exact .inr ⟨d,hd,rfl⟩)
 exact Sr.own strC_len h2 (by rw[← e2];exact(k.each z hz).len) (by rw[← e2];exact(k.each z hz).ok)
theorem OwA.rdF{w w0:World}{b lo hi:Nat}{x y:Sl Fm}(h:OwA w b (rowsFm x))(e:x.l.map Fm.p=y.l.map Fm.p)(k:SrF w0 lo hi y):SrF w b w.heap.size x:=by
 have hl:x.l.length=y.l.length:=by simpa using congrArg List.length e
 have h0:w.ownsRow b 130 3 x.val x.l.length (x.l.flatMap Fm.cells):=h.each (rwForm x) (by simp[rowsFm])
 have hw:∀z∈x.l,w.ownsRow b 9 1 z.sl z.ws.length (z.ws.flatMap strC):=fun z hz=>h.each (rwWords z) (by simp only[rowsFm,List.mem_cons,List.mem_map];exact .inr ⟨z,hz,rfl⟩)
 have hy:∀z∈x.l,z.ok':=fun z hz=>own_cap (hw z hz)
 exact⟨⟨Rd.own fm_len h0,fun z hz=>Rd.own strC_len (hw z hz)⟩,Nat.le_refl _,by rw[hl];exact k.len,same_ok e hy k.ok,same_ws (q:=fun ws=>ws.length≤2000000) e k.ws,own_cap h0⟩
theorem OwnF.owa{w:World}{b:Nat}{g:Sl Fm}(h:OwnF w b g.A g.l.length g.c g.l):OwA w b (rowsFm g):=by
 obtain⟨g0,h1,h2,h3,h4,h5⟩:=h
 refine OwA.cons (B:=g0+1) (own_base h2 h1) (fun x hx=>(h5 x hx).2) ⟨fun r hr=>?_,?_⟩ (by omega)
 ·obtain⟨z,hz,rfl⟩:=List.mem_map.1 hr
  exact(h3 z hz).2
 ·rw[List.pairwise_map,List.pairwise_iff_getElem]
  intro i j hi hj hij
  exact h4 i j _ _ hij (List.getElem?_eq_getElem hi) (List.getElem?_eq_getElem hj)
theorem toChancery_any(s:Sl Nm)(fr to_:Int)(lo hi:Nat)(w:World)(h:SrNm w lo hi s) :
 Calls Tryz.prog 55 #[.agg #[.slice s.A s.l.length s.c,.int .i64 fr,.int .i64 to_]] w fun e w'=>∃s1:Sl Nm,e=.returned (.agg #[.slice s1.A s1.l.length s1.c,.int .i64 fr,.int .i64 to_])∧s1.l=s.l∧OwA w' w.heap.size [rwReign s1]∧Up w w':=by
 have u:Up w (((w.alloc (.cells #[.slice s.A s.l.length s.c,.int .i64 fr,.int .i64 to_] 24)).alloc (.cells #[.slice none 0 0,.int .i64 0,.int .i64 0] 48)).alloc (.cells #[.slice none 0 0,.int .i64 0,.int .i64 0] 48)):=((Up.alloc w _).allocs _).allocs _
 have hA:=((Bx.new w #[.slice s.A s.l.length s.c,.int .i64 fr,.int .i64 to_] 24).up (Up.alloc _ (.cells #[.slice none 0 0,.int .i64 0,.int .i64 0] 48))).up (Up.alloc _ (.cells #[.slice none 0 0,.int .i64 0,.int .i64 0] 48))
 have hR:Bx (((w.alloc (.cells #[.slice s.A s.l.length s.c,.int .i64 fr,.int .i64 to_] 24)).alloc (.cells #[.slice none 0 0,.int .i64 0,.int .i64 0] 48)).alloc (.cells #[.slice none 0 0,.int .i64 0,.int .i64 0] 48)) (w.heap.size+1) [.slice none 0 0,.int .i64 0,.int .i64 0]:=by
  have:=(Bx.new (w.alloc (.cells #[.slice s.A s.l.length s.c,.int .i64 fr,.int .i64 to_] 24)) #[.slice none 0 0,.int .i64 0,.int .i64 0] 48).up (Up.alloc _ (.cells #[.slice none 0 0,.int .i64 0,.int .i64 0] 48))
  simpa using this
 have hO:Bx (((w.alloc (.cells #[.slice s.A s.l.length s.c,.int .i64 fr,.int .i64 to_] 24)).alloc (.cells #[.slice none 0 0,.int .i64 0,.int .i64 0] 48)).alloc (.cells #[.slice none 0 0,.int .i64 0,.int .i64 0] 48)) (w.heap.size+1+1) [.slice none 0 0,.int .i64 0,.int .i64 0]:=by
  have:=Bx.new ((w.alloc (.cells #[.slice s.A s.l.length s.c,.int .i64 fr,.int .i64 to_] 24)).alloc (.cells #[.slice none 0 0,.int .i64 0,.int .i64 0] 48)) #[.slice none 0 0,.int .i64 0,.int .i64 0] 48
  simpa using this
 have hsz:w.heap.size+3≤(((w.alloc (.cells #[.slice s.A s.l.length s.c,.int .i64 fr,.int .i64 to_] 24)).alloc (.cells #[.slice none 0 0,.int .i64 0,.int .i64 0] 48)).alloc (.cells #[.slice none 0 0,.int .i64 0,.int .i64 0] 48)).heap.size:=by simp
 have oA:=OwA.nil_ (((w.alloc (.cells #[.slice s.A s.l.length s.c,.int .i64 fr,.int .i64 to_] 24)).alloc (.cells #[.slice none 0 0,.int .i64 0,.int .i64 0] 48)).alloc (.cells #[.slice none 0 0,.int .i64 0,.int .i64 0] 48)) (w.heap.size+3)
 go_enter Tryz.func55,Tryz.ntmps55
 go_wp2_with fail
 generalize (((w.alloc (.cells #[.slice s.A s.l.length s.c,.int .i64 fr,.int .i64 to_] 24)).alloc (.cells #[.slice none 0 0,.int .i64 0,.int .i64 0] 48)).alloc (.cells #[.slice none 0 0,.int .i64 0,.int .i64 0] 48))=w0 at *
 refine(toReignS_any s.A s.l s.c lo hi _ (h.rd.up u h.hhi) (Nat.le_trans h.hhi u.size) h.len).mono ?_
 rintro e v1 ⟨q,rfl,o_s1,v⟩
 obtain⟨s1,rfl,e_s1,-,-,o_s1⟩:=own_sl o_s1
 have E_s1:=qh e_s1
 clear e_s1;replace oA:=oA.append v hsz (OwA.one (r:=rwReign s1) o_s1)
 replace u:=u.trans v;replace hA:=hA.up v;replace hR:=hR.up v;replace hO:=hO.up v;replace hsz:=Nat.le_trans hsz v.size;clear v;obtain⟨x0,x1,x2⟩:=hA.c3
 obtain⟨y0,y1,y2⟩:=hO.c3
 obtain⟨f0,f1,f2⟩:=hO.f3
 obtain⟨z0,z1,z2⟩:=hR.c3
 obtain⟨g0,g1,g2⟩:=hR.f3
 go_wp2;refine bodyPost_ret (v:=.agg #[.slice s1.A s1.l.length s1.c,.int .i64 fr,.int .i64 to_]) (by simp[results,Tryz.results55,go_sem,z0,z1,z2]) rfl ?_
 refine⟨s1,rfl,E_s1.out,?_,?_⟩
 ·refine OwA.base (b:=w.heap.size+3) ?_ (by omega)
  iterate 6 refine OwA.put ?_ (by first|(simp;done)|(simp;omega)) _
  exact oA
 ·iterate 6 refine Up.setCell ?_ (by first|(simp;done)|(simp;omega)) _
  exact u
theorem toPeople_any(s:Sl Nm)(t:Sl Tm)(lo hi:Nat)(w:World)(h:SrNm w lo hi s)(k:SrTm w lo hi t) :
 Calls Tryz.prog 56 #[.agg #[.slice s.A s.l.length s.c,.slice t.A t.l.length t.c]] w fun e w'=>∃(s1:Sl Nm) (t1:Sl Tm),e=.returned (.agg #[.slice s1.A s1.l.length s1.c,.slice t1.A t1.l.length t1.c])∧s1.l=s.l∧t1.l=t.l∧OwA w' w.heap.size [rwPerson s1,rwTerm t1]∧Up w w':=by
 have u:Up w (((w.alloc (.cells #[.slice s.A s.l.length s.c,.slice t.A t.l.length t.c] 28)).alloc (.cells #[.slice none 0 0,.slice none 0 0] 52)).alloc (.cells #[.slice none 0 0,.slice none 0 0] 52)):=((Up.alloc w _).allocs _).allocs _
 have hA:=((Bx.new w #[.slice s.A s.l.length s.c,.slice t.A t.l.length t.c] 28).up (Up.alloc _ (.cells #[.slice none 0 0,.slice none 0 0] 52))).up (Up.alloc _ (.cells #[.slice none 0 0,.slice none 0 0] 52))
 have hR:Bx (((w.alloc (.cells #[.slice s.A s.l.length s.c,.slice t.A t.l.length t.c] 28)).alloc (.cells #[.slice none 0 0,.slice none 0 0] 52)).alloc (.cells #[.slice none 0 0,.slice none 0 0] 52)) (w.heap.size+1) [.slice none 0 0,.slice none 0 0]:=by
  have:=(Bx.new (w.alloc (.cells #[.slice s.A s.l.length s.c,.slice t.A t.l.length t.c] 28)) #[.slice none 0 0,.slice none 0 0] 52).up (Up.alloc _ (.cells #[.slice none 0 0,.slice none 0 0] 52))
  simpa using this
 have hO:Bx (((w.alloc (.cells #[.slice s.A s.l.length s.c,.slice t.A t.l.length t.c] 28)).alloc (.cells #[.slice none 0 0,.slice none 0 0] 52)).alloc (.cells #[.slice none 0 0,.slice none 0 0] 52)) (w.heap.size+1+1) [.slice none 0 0,.slice none 0 0]:=by
  have:=Bx.new ((w.alloc (.cells #[.slice s.A s.l.length s.c,.slice t.A t.l.length t.c] 28)).alloc (.cells #[.slice none 0 0,.slice none 0 0] 52)) #[.slice none 0 0,.slice none 0 0] 52
  simpa using this
 have hsz:w.heap.size+3≤(((w.alloc (.cells #[.slice s.A s.l.length s.c,.slice t.A t.l.length t.c] 28)).alloc (.cells #[.slice none 0 0,.slice none 0 0] 52)).alloc (.cells #[.slice none 0 0,.slice none 0 0] 52)).heap.size:=by simp
 have oA:=OwA.nil_ (((w.alloc (.cells #[.slice s.A s.l.length s.c,.slice t.A t.l.length t.c] 28)).alloc (.cells #[.slice none 0 0,.slice none 0 0] 52)).alloc (.cells #[.slice none 0 0,.slice none 0 0] 52)) (w.heap.size+3)
 go_enter Tryz.func56,Tryz.ntmps56
 go_wp2_with fail
 generalize (((w.alloc (.cells #[.slice s.A s.l.length s.c,.slice t.A t.l.length t.c] 28)).alloc (.cells #[.slice none 0 0,.slice none 0 0] 52)).alloc (.cells #[.slice none 0 0,.slice none 0 0] 52))=w0 at *
 refine(toPersonS_any s.A s.l s.c lo hi _ (h.rd.up u h.hhi) (Nat.le_trans h.hhi u.size) h.len).mono ?_
 rintro e v1 ⟨q,rfl,o_s1,v⟩
 obtain⟨s1,rfl,e_s1,-,-,o_s1⟩:=own_sl o_s1
 have E_s1:=qh e_s1
 clear e_s1;replace oA:=oA.append v hsz (OwA.one (r:=rwPerson s1) o_s1)
 replace u:=u.trans v;replace hA:=hA.up v;replace hR:=hR.up v;replace hO:=hO.up v;replace hsz:=Nat.le_trans hsz v.size;clear v;obtain⟨x0,x1⟩:=hA.c2
 obtain⟨y0,y1⟩:=hO.c2
 obtain⟨f0,f1⟩:=hO.f2
 obtain⟨z0,z1⟩:=hR.c2
 obtain⟨g0,g1⟩:=hR.f2
 replace hO:=hO.put 0 (.slice s1.A s1.l.length s1.c);replace hA:=hA.other (b':=w.heap.size+1+1) (by omega) 0 (.slice s1.A s1.l.length s1.c)
 replace hR:=hR.other (b':=w.heap.size+1+1) (by omega) 0 (.slice s1.A s1.l.length s1.c)
 replace oA:=oA.put (p:=⟨w.heap.size+1+1,0,none⟩) (show w.heap.size+1+1<w.heap.size+3 by omega) (.slice s1.A s1.l.length s1.c)
 replace u:=u.setCell (p:=⟨w.heap.size+1+1,0,none⟩) (show w.heap.size≤w.heap.size+1+1 by omega) (.slice s1.A s1.l.length s1.c)
 have hsz:w.heap.size+3≤(v1.setCell ⟨w.heap.size+1+1,0,none⟩ (.slice s1.A s1.l.length s1.c)).heap.size:=by simpa using hsz
 go_wp2_with fail
 generalize (v1.setCell ⟨w.heap.size+1+1,0,none⟩ (.slice s1.A s1.l.length s1.c))=w2 at *
 refine(toTermS_any t.A t.l t.c lo hi _ (k.rd.up u k.hhi) (Nat.le_trans k.hhi u.size) k.len).mono ?_
 rintro e v3 ⟨q,rfl,o_t1,v⟩
 obtain⟨t1,rfl,e_t1,-,-,o_t1⟩:=own_sl o_t1
 have E_t1:=qh e_t1
 clear e_t1;replace oA:=oA.append v hsz (OwA.one (r:=rwTerm t1) o_t1)
 replace u:=u.trans v;replace hA:=hA.up v;replace hR:=hR.up v;replace hO:=hO.up v;replace hsz:=Nat.le_trans hsz v.size;clear v;obtain⟨x0,x1⟩:=hA.c2
 obtain⟨y0,y1⟩:=hO.c2
 obtain⟨f0,f1⟩:=hO.f2
 obtain⟨z0,z1⟩:=hR.c2
 obtain⟨g0,g1⟩:=hR.f2
 go_wp2;refine bodyPost_ret (v:=.agg #[.slice s1.A s1.l.length s1.c,.slice t1.A t1.l.length t1.c]) (by simp[results,Tryz.results56,go_sem,z0,z1]) rfl ?_
 refine⟨s1,t1,rfl,E_s1.out,E_t1.out,?_,?_⟩
 ·refine OwA.base (b:=w.heap.size+3) ?_ (by omega)
  iterate 3 refine OwA.put ?_ (by first|(simp;done)|(simp;omega)) _
  exact oA
 ·iterate 3 refine Up.setCell ?_ (by first|(simp;done)|(simp;omega)) _
  exact u
theorem toLand_any(s:Sl ByteArray)(t:Sl I3)(lo hi:Nat)(w:World)(h:SrSt w lo hi s)(k:SrI3 w lo hi t) :
 Calls Tryz.prog 57 #[.agg #[.slice s.A s.l.length s.c,.slice t.A t.l.length t.c]] w fun e w'=>∃(s1:Sl ByteArray) (t1:Sl I3),e=.returned (.agg #[.slice s1.A s1.l.length s1.c,.slice t1.A t1.l.length t1.c])∧s1.l=s.l∧t1.l=t.l∧OwA w' w.heap.size [rwStr s1,rwWay t1]∧Up w w':=by
 have u:Up w (((w.alloc (.cells #[.slice s.A s.l.length s.c,.slice t.A t.l.length t.c] 32)).alloc (.cells #[.slice none 0 0,.slice none 0 0] 55)).alloc (.cells #[.slice none 0 0,.slice none 0 0] 55)):=((Up.alloc w _).allocs _).allocs _
 have hA:=((Bx.new w #[.slice s.A s.l.length s.c,.slice t.A t.l.length t.c] 32).up (Up.alloc _ (.cells #[.slice none 0 0,.slice none 0 0] 55))).up (Up.alloc _ (.cells #[.slice none 0 0,.slice none 0 0] 55))
 have hR:Bx (((w.alloc (.cells #[.slice s.A s.l.length s.c,.slice t.A t.l.length t.c] 32)).alloc (.cells #[.slice none 0 0,.slice none 0 0] 55)).alloc (.cells #[.slice none 0 0,.slice none 0 0] 55)) (w.heap.size+1) [.slice none 0 0,.slice none 0 0]:=by
  have:=(Bx.new (w.alloc (.cells #[.slice s.A s.l.length s.c,.slice t.A t.l.length t.c] 32)) #[.slice none 0 0,.slice none 0 0] 55).up (Up.alloc _ (.cells #[.slice none 0 0,.slice none 0 0] 55))
  simpa using this
 have hO:Bx (((w.alloc (.cells #[.slice s.A s.l.length s.c,.slice t.A t.l.length t.c] 32)).alloc (.cells #[.slice none 0 0,.slice none 0 0] 55)).alloc (.cells #[.slice none 0 0,.slice none 0 0] 55)) (w.heap.size+1+1) [.slice none 0 0,.slice none 0 0]:=by
  have:=Bx.new ((w.alloc (.cells #[.slice s.A s.l.length s.c,.slice t.A t.l.length t.c] 32)).alloc (.cells #[.slice none 0 0,.slice none 0 0] 55)) #[.slice none 0 0,.slice none 0 0] 55
  simpa using this
 have hsz:w.heap.size+3≤(((w.alloc (.cells #[.slice s.A s.l.length s.c,.slice t.A t.l.length t.c] 32)).alloc (.cells #[.slice none 0 0,.slice none 0 0] 55)).alloc (.cells #[.slice none 0 0,.slice none 0 0] 55)).heap.size:=by simp
 have oA:=OwA.nil_ (((w.alloc (.cells #[.slice s.A s.l.length s.c,.slice t.A t.l.length t.c] 32)).alloc (.cells #[.slice none 0 0,.slice none 0 0] 55)).alloc (.cells #[.slice none 0 0,.slice none 0 0] 55)) (w.heap.size+3)
 go_enter Tryz.func57,Tryz.ntmps57
 go_wp2_with fail
 generalize (((w.alloc (.cells #[.slice s.A s.l.length s.c,.slice t.A t.l.length t.c] 32)).alloc (.cells #[.slice none 0 0,.slice none 0 0] 55)).alloc (.cells #[.slice none 0 0,.slice none 0 0] 55))=w0 at *
 refine(toStringS_any s.A s.l s.c lo hi _ (h.rd.up u h.hhi) (Nat.le_trans h.hhi u.size) h.len).mono ?_
 rintro e v1 ⟨q,rfl,o_s1,v⟩
 obtain⟨s1,rfl,e_s1,-,-,o_s1⟩:=own_sl o_s1
 have E_s1:=qh e_s1
 clear e_s1;replace oA:=oA.append v hsz (OwA.one (r:=rwStr s1) o_s1)
 replace u:=u.trans v;replace hA:=hA.up v;replace hR:=hR.up v;replace hO:=hO.up v;replace hsz:=Nat.le_trans hsz v.size;clear v;obtain⟨x0,x1⟩:=hA.c2
 obtain⟨y0,y1⟩:=hO.c2
 obtain⟨f0,f1⟩:=hO.f2
 obtain⟨z0,z1⟩:=hR.c2
 obtain⟨g0,g1⟩:=hR.f2
 replace hO:=hO.put 0 (.slice s1.A s1.l.length s1.c);replace hA:=hA.other (b':=w.heap.size+1+1) (by omega) 0 (.slice s1.A s1.l.length s1.c)
 replace hR:=hR.other (b':=w.heap.size+1+1) (by omega) 0 (.slice s1.A s1.l.length s1.c)
 replace oA:=oA.put (p:=⟨w.heap.size+1+1,0,none⟩) (show w.heap.size+1+1<w.heap.size+3 by omega) (.slice s1.A s1.l.length s1.c)
 replace u:=u.setCell (p:=⟨w.heap.size+1+1,0,none⟩) (show w.heap.size≤w.heap.size+1+1 by omega) (.slice s1.A s1.l.length s1.c)
 have hsz:w.heap.size+3≤(v1.setCell ⟨w.heap.size+1+1,0,none⟩ (.slice s1.A s1.l.length s1.c)).heap.size:=by simpa using hsz
 go_wp2_with fail
 generalize (v1.setCell ⟨w.heap.size+1+1,0,none⟩ (.slice s1.A s1.l.length s1.c))=w2 at *
 refine(toWayS_any t.A t.l t.c lo hi _ (k.rd.up u k.hhi) (Nat.le_trans k.hhi u.size) k.len).mono ?_
 rintro e v3 ⟨q,rfl,o_t1,v⟩
 obtain⟨t1,rfl,e_t1,-,-,o_t1⟩:=own_sl o_t1
 have E_t1:=qh e_t1
 clear e_t1;replace oA:=oA.append v hsz (OwA.one (r:=rwWay t1) o_t1)
 replace u:=u.trans v;replace hA:=hA.up v;replace hR:=hR.up v;replace hO:=hO.up v;replace hsz:=Nat.le_trans hsz v.size;clear v;obtain⟨x0,x1⟩:=hA.c2
 obtain⟨y0,y1⟩:=hO.c2
 obtain⟨f0,f1⟩:=hO.f2
 obtain⟨z0,z1⟩:=hR.c2
 obtain⟨g0,g1⟩:=hR.f2
 go_wp2;refine bodyPost_ret (v:=.agg #[.slice s1.A s1.l.length s1.c,.slice t1.A t1.l.length t1.c]) (by simp[results,Tryz.results57,go_sem,z0,z1]) rfl ?_
 refine⟨s1,t1,rfl,E_s1.out,E_t1.out,?_,?_⟩
 ·refine OwA.base (b:=w.heap.size+3) ?_ (by omega)
  iterate 3 refine OwA.put ?_ (by first|(simp;done)|(simp;omega)) _
  exact oA
 ·iterate 3 refine Up.setCell ?_ (by first|(simp;done)|(simp;omega)) _
  exact u
theorem toWorld_any(x:Wd)(lo hi:Nat)(w:World)(h:RdW w lo hi x) :
 Calls Tryz.prog 23 #[.agg #[.slice x.rs.A x.rs.l.length x.rs.c,.int .i64 x.fr,.int .i64 x.to_,.slice x.ps.A x.ps.l.length x.ps.c,.slice x.ts.A x.ts.l.length x.ts.c,.slice x.pl.A x.pl.l.length x.pl.c,.slice x.ws.A x.ws.l.length x.ws.c,.slice x.st.A x.st.l.length x.st.c,.slice x.se.A x.se.l.length x.se.c,.slice x.ha.A x.ha.l.length x.ha.c]] w fun e w'=>∃y:Wd,e=.returned y.val∧y.p=x.p∧OwA w' w.heap.size (rowsW y)∧Up w w':=by
 have u:Up w (((w.alloc (.cells #[.slice x.rs.A x.rs.l.length x.rs.c,.int .i64 x.fr,.int .i64 x.to_,.slice x.ps.A x.ps.l.length x.ps.c,.slice x.ts.A x.ts.l.length x.ts.c,.slice x.pl.A x.pl.l.length x.pl.c,.slice x.ws.A x.ws.l.length x.ws.c,.slice x.st.A x.st.l.length x.st.c,.slice x.se.A x.se.l.length x.se.c,.slice x.ha.A x.ha.l.length x.ha.c] 36)).alloc (.cells #[.slice none 0 0,.int .i64 0,.int .i64 0,.slice none 0 0,.slice none 0 0,.slice none 0 0,.slice none 0 0,.slice none 0 0,.slice none 0 0,.slice none 0 0] 59)).alloc (.cells #[.slice none 0 0,.int .i64 0,.int .i64 0,.slice none 0 0,.slice none 0 0,.slice none 0 0,.slice none 0 0,.slice none 0 0,.slice none 0 0,.slice none 0 0] 59)):=((Up.alloc w _).allocs _).allocs _
 have hA:=((Bx.new w #[.slice x.rs.A x.rs.l.length x.rs.c,.int .i64 x.fr,.int .i64 x.to_,.slice x.ps.A x.ps.l.length x.ps.c,.slice x.ts.A x.ts.l.length x.ts.c,.slice x.pl.A x.pl.l.length x.pl.c,.slice x.ws.A x.ws.l.length x.ws.c,.slice x.st.A x.st.l.length x.st.c,.slice x.se.A x.se.l.length x.se.c,.slice x.ha.A x.ha.l.length x.ha.c] 36).up (Up.alloc _ (.cells #[.slice none 0 0,.int .i64 0,.int .i64 0,.slice none 0 0,.slice none 0 0,.slice none 0 0,.slice none 0 0,.slice none 0 0,.slice none 0 0,.slice none 0 0] 59))).up (Up.alloc _ (.cells #[.slice none 0 0,.int .i64 0,.int .i64 0,.slice none 0 0,.slice none 0 0,.slice none 0 0,.slice none 0 0,.slice none 0 0,.slice none 0 0,.slice none 0 0] 59))
 have hR:Bx (((w.alloc (.cells #[.slice x.rs.A x.rs.l.length x.rs.c,.int .i64 x.fr,.int .i64 x.to_,.slice x.ps.A x.ps.l.length x.ps.c,.slice x.ts.A x.ts.l.length x.ts.c,.slice x.pl.A x.pl.l.length x.pl.c,.slice x.ws.A x.ws.l.length x.ws.c,.slice x.st.A x.st.l.length x.st.c,.slice x.se.A x.se.l.length x.se.c,.slice x.ha.A x.ha.l.length x.ha.c] 36)).alloc (.cells #[.slice none 0 0,.int .i64 0,.int .i64 0,.slice none 0 0,.slice none 0 0,.slice none 0 0,.slice none 0 0,.slice none 0 0,.slice none 0 0,.slice none 0 0] 59)).alloc (.cells #[.slice none 0 0,.int .i64 0,.int .i64 0,.slice none 0 0,.slice none 0 0,.slice none 0 0,.slice none 0 0,.slice none 0 0,.slice none 0 0,.slice none 0 0] 59)) (w.heap.size+1) [.slice none 0 0,.int .i64 0,.int .i64 0,.slice none 0 0,.slice none 0 0,.slice none 0 0,.slice none 0 0,.slice none 0 0,.slice none 0 0,.slice none 0 0]:=by
  have:=(Bx.new (w.alloc (.cells #[.slice x.rs.A x.rs.l.length x.rs.c,.int .i64 x.fr,.int .i64 x.to_,.slice x.ps.A x.ps.l.length x.ps.c,.slice x.ts.A x.ts.l.length x.ts.c,.slice x.pl.A x.pl.l.length x.pl.c,.slice x.ws.A x.ws.l.length x.ws.c,.slice x.st.A x.st.l.length x.st.c,.slice x.se.A x.se.l.length x.se.c,.slice x.ha.A x.ha.l.length x.ha.c] 36)) #[.slice none 0 0,.int .i64 0,.int .i64 0,.slice none 0 0,.slice none 0 0,.slice none 0 0,.slice none 0 0,.slice none 0 0,.slice none 0 0,.slice none 0 0] 59).up (Up.alloc _ (.cells #[.slice none 0 0,.int .i64 0,.int .i64 0,.slice none 0 0,.slice none 0 0,.slice none 0 0,.slice none 0 0,.slice none 0 0,.slice none 0 0,.slice none 0 0] 59))
  simpa using this
 have hO:Bx (((w.alloc (.cells #[.slice x.rs.A x.rs.l.length x.rs.c,.int .i64 x.fr,.int .i64 x.to_,.slice x.ps.A x.ps.l.length x.ps.c,.slice x.ts.A x.ts.l.length x.ts.c,.slice x.pl.A x.pl.l.length x.pl.c,.slice x.ws.A x.ws.l.length x.ws.c,.slice x.st.A x.st.l.length x.st.c,.slice x.se.A x.se.l.length x.se.c,.slice x.ha.A x.ha.l.length x.ha.c] 36)).alloc (.cells #[.slice none 0 0,.int .i64 0,.int .i64 0,.slice none 0 0,.slice none 0 0,.slice none 0 0,.slice none 0 0,.slice none 0 0,.slice none 0 0,.slice none 0 0] 59)).alloc (.cells #[.slice none 0 0,.int .i64 0,.int .i64 0,.slice none 0 0,.slice none 0 0,.slice none 0 0,.slice none 0 0,.slice none 0 0,.slice none 0 0,.slice none 0 0] 59)) (w.heap.size+1+1) [.slice none 0 0,.int .i64 0,.int .i64 0,.slice none 0 0,.slice none 0 0,.slice none 0 0,.slice none 0 0,.slice none 0 0,.slice none 0 0,.slice none 0 0]:=by
  have:=Bx.new ((w.alloc (.cells #[.slice x.rs.A x.rs.l.length x.rs.c,.int .i64 x.fr,.int .i64 x.to_,.slice x.ps.A x.ps.l.length x.ps.c,.slice x.ts.A x.ts.l.length x.ts.c,.slice x.pl.A x.pl.l.length x.pl.c,.slice x.ws.A x.ws.l.length x.ws.c,.slice x.st.A x.st.l.length x.st.c,.slice x.se.A x.se.l.length x.se.c,.slice x.ha.A x.ha.l.length x.ha.c] 36)).alloc (.cells #[.slice none 0 0,.int .i64 0,.int .i64 0,.slice none 0 0,.slice none 0 0,.slice none 0 0,.slice none 0 0,.slice none 0 0,.slice none 0 0,.slice none 0 0] 59)) #[.slice none 0 0,.int .i64 0,.int .i64 0,.slice none 0 0,.slice none 0 0,.slice none 0 0,.slice none 0 0,.slice none 0 0,.slice none 0 0,.slice none 0 0] 59
  simpa using this
 have hsz:w.heap.size+3≤(((w.alloc (.cells #[.slice x.rs.A x.rs.l.length x.rs.c,.int .i64 x.fr,.int .i64 x.to_,.slice x.ps.A x.ps.l.length x.ps.c,.slice x.ts.A x.ts.l.length x.ts.c,.slice x.pl.A x.pl.l.length x.pl.c,.slice x.ws.A x.ws.l.length x.ws.c,.slice x.st.A x.st.l.length x.st.c,.slice x.se.A x.se.l.length x.se.c,.slice x.ha.A x.ha.l.length x.ha.c] 36)).alloc (.cells #[.slice none 0 0,.int .i64 0,.int .i64 0,.slice none 0 0,.slice none 0 0,.slice none 0 0,.slice none 0 0,.slice none 0 0,.slice none 0 0,.slice none 0 0] 59)).alloc (.cells #[.slice none 0 0,.int .i64 0,.int .i64 0,.slice none 0 0,.slice none 0 0,.slice none 0 0,.slice none 0 0,.slice none 0 0,.slice none 0 0,.slice none 0 0] 59)).heap.size:=by simp
 have oA:=OwA.nil_ (((w.alloc (.cells #[.slice x.rs.A x.rs.l.length x.rs.c,.int .i64 x.fr,.int .i64 x.to_,.slice x.ps.A x.ps.l.length x.ps.c,.slice x.ts.A x.ts.l.length x.ts.c,.slice x.pl.A x.pl.l.length x.pl.c,.slice x.ws.A x.ws.l.length x.ws.c,.slice x.st.A x.st.l.length x.st.c,.slice x.se.A x.se.l.length x.se.c,.slice x.ha.A x.ha.l.length x.ha.c] 36)).alloc (.cells #[.slice none 0 0,.int .i64 0,.int .i64 0,.slice none 0 0,.slice none 0 0,.slice none 0 0,.slice none 0 0,.slice none 0 0,.slice none 0 0,.slice none 0 0] 59)).alloc (.cells #[.slice none 0 0,.int .i64 0,.int .i64 0,.slice none 0 0,.slice none 0 0,.slice none 0 0,.slice none 0 0,.slice none 0 0,.slice none 0 0,.slice none 0 0] 59)) (w.heap.size+3)
 go_enter Tryz.func23,Tryz.ntmps23
 go_wp2_with fail
 generalize (((w.alloc (.cells #[.slice x.rs.A x.rs.l.length x.rs.c,.int .i64 x.fr,.int .i64 x.to_,.slice x.ps.A x.ps.l.length x.ps.c,.slice x.ts.A x.ts.l.length x.ts.c,.slice x.pl.A x.pl.l.length x.pl.c,.slice x.ws.A x.ws.l.length x.ws.c,.slice x.st.A x.st.l.length x.st.c,.slice x.se.A x.se.l.length x.se.c,.slice x.ha.A x.ha.l.length x.ha.c] 36)).alloc (.cells #[.slice none 0 0,.int .i64 0,.int .i64 0,.slice none 0 0,.slice none 0 0,.slice none 0 0,.slice none 0 0,.slice none 0 0,.slice none 0 0,.slice none 0 0] 59)).alloc (.cells #[.slice none 0 0,.int .i64 0,.int .i64 0,.slice none 0 0,.slice none 0 0,.slice none 0 0,.slice none 0 0,.slice none 0 0,.slice none 0 0,.slice none 0 0] 59))=w0 at *
 refine(toChancery_any x.rs x.fr x.to_ lo hi _ (h.rs.up u)).mono ?_
 rintro e v1 ⟨rs,rfl,e_rs,oN,v⟩
 have E_rs:=qh e_rs
 clear e_rs;replace oA:=oA.append v hsz (oN);replace u:=u.trans v;replace hA:=hA.up v;replace hR:=hR.up v;replace hO:=hO.up v;replace hsz:=Nat.le_trans hsz v.size;clear v;obtain⟨x0,x1,x2,x3,x4,x5,x6,x7,x8,x9⟩:=hA.c10
 obtain⟨y0,y1,y2,y3,y4,y5,y6,y7,y8,y9⟩:=hO.c10
 obtain⟨f0,f1,f2,f3,f4,f5,f6,f7,f8,f9⟩:=hO.f10
 obtain⟨z0,z1,z2,z3,z4,z5,z6,z7,z8,z9⟩:=hR.c10
 obtain⟨g0,g1,g2,g3,g4,g5,g6,g7,g8,g9⟩:=hR.f10
 replace hO:=hO.put 0 (.slice rs.A rs.l.length rs.c);replace hA:=hA.other (b':=w.heap.size+1+1) (by omega) 0 (.slice rs.A rs.l.length rs.c)
 replace hR:=hR.other (b':=w.heap.size+1+1) (by omega) 0 (.slice rs.A rs.l.length rs.c)
 replace oA:=oA.put (p:=⟨w.heap.size+1+1,0,none⟩) (show w.heap.size+1+1<w.heap.size+3 by omega) (.slice rs.A rs.l.length rs.c)
 replace u:=u.setCell (p:=⟨w.heap.size+1+1,0,none⟩) (show w.heap.size≤w.heap.size+1+1 by omega) (.slice rs.A rs.l.length rs.c)
 replace hO:=hO.put 1 (.int .i64 x.fr);replace hA:=hA.other (b':=w.heap.size+1+1) (by omega) 1 (.int .i64 x.fr)
 replace hR:=hR.other (b':=w.heap.size+1+1) (by omega) 1 (.int .i64 x.fr)
 replace oA:=oA.put (p:=⟨w.heap.size+1+1,1,none⟩) (show w.heap.size+1+1<w.heap.size+3 by omega) (.int .i64 x.fr)
 replace u:=u.setCell (p:=⟨w.heap.size+1+1,1,none⟩) (show w.heap.size≤w.heap.size+1+1 by omega) (.int .i64 x.fr)
 replace hO:=hO.put 2 (.int .i64 x.to_);replace hA:=hA.other (b':=w.heap.size+1+1) (by omega) 2 (.int .i64 x.to_)
 replace hR:=hR.other (b':=w.heap.size+1+1) (by omega) 2 (.int .i64 x.to_)
 replace oA:=oA.put (p:=⟨w.heap.size+1+1,2,none⟩) (show w.heap.size+1+1<w.heap.size+3 by omega) (.int .i64 x.to_)
 replace u:=u.setCell (p:=⟨w.heap.size+1+1,2,none⟩) (show w.heap.size≤w.heap.size+1+1 by omega) (.int .i64 x.to_)
 have hsz:w.heap.size+3≤(((v1.setCell ⟨w.heap.size+1+1,0,none⟩ (.slice rs.A rs.l.length rs.c)).setCell ⟨w.heap.size+1+1,1,none⟩ (.int .i64 x.fr)).setCell ⟨w.heap.size+1+1,2,none⟩ (.int .i64 x.to_)).heap.size:=by simpa using hsz
 go_wp2_with fail
 generalize (((v1.setCell ⟨w.heap.size+1+1,0,none⟩ (.slice rs.A rs.l.length rs.c)).setCell ⟨w.heap.size+1+1,1,none⟩ (.int .i64 x.fr)).setCell ⟨w.heap.size+1+1,2,none⟩ (.int .i64 x.to_))=w2 at *
 refine(toPeople_any x.ps x.ts lo hi _ (h.ps.up u) (h.ts.up u)).mono ?_
 rintro e v3 ⟨ps,ts,rfl,e_ps,e_ts,oN,v⟩
 have E_ps:=qh e_ps
 have E_ts:=qh e_ts
 clear e_ps e_ts;replace oA:=oA.append v hsz (oN);replace u:=u.trans v;replace hA:=hA.up v;replace hR:=hR.up v;replace hO:=hO.up v;replace hsz:=Nat.le_trans hsz v.size;clear v;obtain⟨x0,x1,x2,x3,x4,x5,x6,x7,x8,x9⟩:=hA.c10
 obtain⟨y0,y1,y2,y3,y4,y5,y6,y7,y8,y9⟩:=hO.c10
 obtain⟨f0,f1,f2,f3,f4,f5,f6,f7,f8,f9⟩:=hO.f10
 obtain⟨z0,z1,z2,z3,z4,z5,z6,z7,z8,z9⟩:=hR.c10
 obtain⟨g0,g1,g2,g3,g4,g5,g6,g7,g8,g9⟩:=hR.f10
 replace hO:=hO.put 3 (.slice ps.A ps.l.length ps.c);replace hA:=hA.other (b':=w.heap.size+1+1) (by omega) 3 (.slice ps.A ps.l.length ps.c)
 replace hR:=hR.other (b':=w.heap.size+1+1) (by omega) 3 (.slice ps.A ps.l.length ps.c)
 replace oA:=oA.put (p:=⟨w.heap.size+1+1,3,none⟩) (show w.heap.size+1+1<w.heap.size+3 by omega) (.slice ps.A ps.l.length ps.c)
 replace u:=u.setCell (p:=⟨w.heap.size+1+1,3,none⟩) (show w.heap.size≤w.heap.size+1+1 by omega) (.slice ps.A ps.l.length ps.c)
 replace hO:=hO.put 4 (.slice ts.A ts.l.length ts.c);replace hA:=hA.other (b':=w.heap.size+1+1) (by omega) 4 (.slice ts.A ts.l.length ts.c)
 replace hR:=hR.other (b':=w.heap.size+1+1) (by omega) 4 (.slice ts.A ts.l.length ts.c)
 replace oA:=oA.put (p:=⟨w.heap.size+1+1,4,none⟩) (show w.heap.size+1+1<w.heap.size+3 by omega) (.slice ts.A ts.l.length ts.c)
 replace u:=u.setCell (p:=⟨w.heap.size+1+1,4,none⟩) (show w.heap.size≤w.heap.size+1+1 by omega) (.slice ts.A ts.l.length ts.c)
 have hsz:w.heap.size+3≤((v3.setCell ⟨w.heap.size+1+1,3,none⟩ (.slice ps.A ps.l.length ps.c)).setCell ⟨w.heap.size+1+1,4,none⟩ (.slice ts.A ts.l.length ts.c)).heap.size:=by simpa using hsz
 go_wp2_with fail
 generalize ((v3.setCell ⟨w.heap.size+1+1,3,none⟩ (.slice ps.A ps.l.length ps.c)).setCell ⟨w.heap.size+1+1,4,none⟩ (.slice ts.A ts.l.length ts.c))=w4 at *
 refine(toLand_any x.pl x.ws lo hi _ (h.pl.up u) (h.ws.up u)).mono ?_
 rintro e v5 ⟨pl,ws,rfl,e_pl,e_ws,oN,v⟩
 have E_pl:=qh e_pl
 have E_ws:=qh e_ws
 clear e_pl e_ws;replace oA:=oA.append v hsz (oN);replace u:=u.trans v;replace hA:=hA.up v;replace hR:=hR.up v;replace hO:=hO.up v;replace hsz:=Nat.le_trans hsz v.size;clear v;obtain⟨x0,x1,x2,x3,x4,x5,x6,x7,x8,x9⟩:=hA.c10
 obtain⟨y0,y1,y2,y3,y4,y5,y6,y7,y8,y9⟩:=hO.c10
 obtain⟨f0,f1,f2,f3,f4,f5,f6,f7,f8,f9⟩:=hO.f10
 obtain⟨z0,z1,z2,z3,z4,z5,z6,z7,z8,z9⟩:=hR.c10
 obtain⟨g0,g1,g2,g3,g4,g5,g6,g7,g8,g9⟩:=hR.f10
 replace hO:=hO.put 5 (.slice pl.A pl.l.length pl.c);replace hA:=hA.other (b':=w.heap.size+1+1) (by omega) 5 (.slice pl.A pl.l.length pl.c)
 replace hR:=hR.other (b':=w.heap.size+1+1) (by omega) 5 (.slice pl.A pl.l.length pl.c)
 replace oA:=oA.put (p:=⟨w.heap.size+1+1,5,none⟩) (show w.heap.size+1+1<w.heap.size+3 by omega) (.slice pl.A pl.l.length pl.c)
 replace u:=u.setCell (p:=⟨w.heap.size+1+1,5,none⟩) (show w.heap.size≤w.heap.size+1+1 by omega) (.slice pl.A pl.l.length pl.c)
 replace hO:=hO.put 6 (.slice ws.A ws.l.length ws.c);replace hA:=hA.other (b':=w.heap.size+1+1) (by omega) 6 (.slice ws.A ws.l.length ws.c)
 replace hR:=hR.other (b':=w.heap.size+1+1) (by omega) 6 (.slice ws.A ws.l.length ws.c)
 replace oA:=oA.put (p:=⟨w.heap.size+1+1,6,none⟩) (show w.heap.size+1+1<w.heap.size+3 by omega) (.slice ws.A ws.l.length ws.c)
 replace u:=u.setCell (p:=⟨w.heap.size+1+1,6,none⟩) (show w.heap.size≤w.heap.size+1+1 by omega) (.slice ws.A ws.l.length ws.c)
 have hsz:w.heap.size+3≤((v5.setCell ⟨w.heap.size+1+1,5,none⟩ (.slice pl.A pl.l.length pl.c)).setCell ⟨w.heap.size+1+1,6,none⟩ (.slice ws.A ws.l.length ws.c)).heap.size:=by simpa using hsz
 go_wp2_with fail
 generalize ((v5.setCell ⟨w.heap.size+1+1,5,none⟩ (.slice pl.A pl.l.length pl.c)).setCell ⟨w.heap.size+1+1,6,none⟩ (.slice ws.A ws.l.length ws.c))=w6 at *
 refine(toStayS_any x.st.A x.st.l x.st.c lo hi _ (h.st.rd.up u h.st.hhi) (Nat.le_trans h.st.hhi u.size) h.st.len).mono ?_
 rintro e v7 ⟨q,rfl,o_st,v⟩
 obtain⟨st,rfl,e_st,-,-,o_st⟩:=own_sl o_st
 have E_st:=qh e_st
 clear e_st;replace oA:=oA.append v hsz (OwA.one (r:=rwStay st) o_st)
 replace u:=u.trans v;replace hA:=hA.up v;replace hR:=hR.up v;replace hO:=hO.up v;replace hsz:=Nat.le_trans hsz v.size;clear v;obtain⟨x0,x1,x2,x3,x4,x5,x6,x7,x8,x9⟩:=hA.c10
 obtain⟨y0,y1,y2,y3,y4,y5,y6,y7,y8,y9⟩:=hO.c10
 obtain⟨f0,f1,f2,f3,f4,f5,f6,f7,f8,f9⟩:=hO.f10
 obtain⟨z0,z1,z2,z3,z4,z5,z6,z7,z8,z9⟩:=hR.c10
 obtain⟨g0,g1,g2,g3,g4,g5,g6,g7,g8,g9⟩:=hR.f10
 replace hO:=hO.put 7 (.slice st.A st.l.length st.c);replace hA:=hA.other (b':=w.heap.size+1+1) (by omega) 7 (.slice st.A st.l.length st.c)
 replace hR:=hR.other (b':=w.heap.size+1+1) (by omega) 7 (.slice st.A st.l.length st.c)
 replace oA:=oA.put (p:=⟨w.heap.size+1+1,7,none⟩) (show w.heap.size+1+1<w.heap.size+3 by omega) (.slice st.A st.l.length st.c)
 replace u:=u.setCell (p:=⟨w.heap.size+1+1,7,none⟩) (show w.heap.size≤w.heap.size+1+1 by omega) (.slice st.A st.l.length st.c)
 have hsz:w.heap.size+3≤(v7.setCell ⟨w.heap.size+1+1,7,none⟩ (.slice st.A st.l.length st.c)).heap.size:=by simpa using hsz
 go_wp2_with fail
 generalize (v7.setCell ⟨w.heap.size+1+1,7,none⟩ (.slice st.A st.l.length st.c))=w8 at *
 refine(toMarkS_any x.se.A x.se.l x.se.c lo hi _ (h.se.rd.up u h.se.hhi) (Nat.le_trans h.se.hhi u.size) h.se.len).mono ?_
 rintro e v9 ⟨q,rfl,o_se,v⟩
 obtain⟨se,rfl,e_se,-,-,o_se⟩:=own_sl o_se
 have E_se:=qh e_se
 clear e_se;replace oA:=oA.append v hsz (OwA.one (r:=rwMark se) o_se)
 replace u:=u.trans v;replace hA:=hA.up v;replace hR:=hR.up v;replace hO:=hO.up v;replace hsz:=Nat.le_trans hsz v.size;clear v;obtain⟨x0,x1,x2,x3,x4,x5,x6,x7,x8,x9⟩:=hA.c10
 obtain⟨y0,y1,y2,y3,y4,y5,y6,y7,y8,y9⟩:=hO.c10
 obtain⟨f0,f1,f2,f3,f4,f5,f6,f7,f8,f9⟩:=hO.f10
 obtain⟨z0,z1,z2,z3,z4,z5,z6,z7,z8,z9⟩:=hR.c10
 obtain⟨g0,g1,g2,g3,g4,g5,g6,g7,g8,g9⟩:=hR.f10
 replace hO:=hO.put 8 (.slice se.A se.l.length se.c);replace hA:=hA.other (b':=w.heap.size+1+1) (by omega) 8 (.slice se.A se.l.length se.c)
 replace hR:=hR.other (b':=w.heap.size+1+1) (by omega) 8 (.slice se.A se.l.length se.c)
 replace oA:=oA.put (p:=⟨w.heap.size+1+1,8,none⟩) (show w.heap.size+1+1<w.heap.size+3 by omega) (.slice se.A se.l.length se.c)
 replace u:=u.setCell (p:=⟨w.heap.size+1+1,8,none⟩) (show w.heap.size≤w.heap.size+1+1 by omega) (.slice se.A se.l.length se.c)
 have hsz:w.heap.size+3≤(v9.setCell ⟨w.heap.size+1+1,8,none⟩ (.slice se.A se.l.length se.c)).heap.size:=by simpa using hsz
 go_wp2_with fail
 generalize (v9.setCell ⟨w.heap.size+1+1,8,none⟩ (.slice se.A se.l.length se.c))=w10 at *
 refine(toMarkS_any x.ha.A x.ha.l x.ha.c lo hi _ (h.ha.rd.up u h.ha.hhi) (Nat.le_trans h.ha.hhi u.size) h.ha.len).mono ?_
 rintro e v11 ⟨q,rfl,o_ha,v⟩
 obtain⟨ha,rfl,e_ha,-,-,o_ha⟩:=own_sl o_ha
 have E_ha:=qh e_ha
 clear e_ha;replace oA:=oA.append v hsz (OwA.one (r:=rwMark ha) o_ha)
 replace u:=u.trans v;replace hA:=hA.up v;replace hR:=hR.up v;replace hO:=hO.up v;replace hsz:=Nat.le_trans hsz v.size;clear v;obtain⟨x0,x1,x2,x3,x4,x5,x6,x7,x8,x9⟩:=hA.c10
 obtain⟨y0,y1,y2,y3,y4,y5,y6,y7,y8,y9⟩:=hO.c10
 obtain⟨f0,f1,f2,f3,f4,f5,f6,f7,f8,f9⟩:=hO.f10
 obtain⟨z0,z1,z2,z3,z4,z5,z6,z7,z8,z9⟩:=hR.c10
 obtain⟨g0,g1,g2,g3,g4,g5,g6,g7,g8,g9⟩:=hR.f10
 go_wp2;refine bodyPost_ret (v:=.agg #[.slice rs.A rs.l.length rs.c,.int .i64 x.fr,.int .i64 x.to_,.slice ps.A ps.l.length ps.c,.slice ts.A ts.l.length ts.c,.slice pl.A pl.l.length pl.c,.slice ws.A ws.l.length ws.c,.slice st.A st.l.length st.c,.slice se.A se.l.length se.c,.slice ha.A ha.l.length ha.c]) (by simp[results,Tryz.results23,go_sem,z0,z1,z2,z3,z4,z5,z6,z7,z8,z9]) rfl ?_
 refine⟨⟨rs,x.fr,x.to_,ps,ts,pl,ws,st,se,ha⟩,rfl,by simp only[Wd.p,E_rs.out,E_ps.out,E_ts.out,E_pl.out,E_ws.out,E_st.out,E_se.out,E_ha.out],?_,?_⟩
 ·refine OwA.base (b:=w.heap.size+3) ?_ (by omega)
  iterate 11 refine OwA.put ?_ (by first|(simp;done)|(simp;omega)) _
  exact oA
 ·iterate 11 refine Up.setCell ?_ (by first|(simp;done)|(simp;omega)) _
  exact u
theorem toDeed_any(x:Dd)(lo hi:Nat)(w:World)(h:RdE w lo hi x) :
 Calls Tryz.prog 60 #[.agg #[.string x.nm,.slice x.da.A x.da.l.length x.da.c,.slice x.wi.A x.wi.l.length x.wi.c,.string x.pl,.string x.se,.string x.ha,.slice x.ci.A x.ci.l.length x.ci.c]] w fun e w'=>∃y:Dd,e=.returned y.val∧y.p=x.p∧OwA w' w.heap.size (rowsE y)∧Up w w':=by
 have u:Up w (((w.alloc (.cells #[.string x.nm,.slice x.da.A x.da.l.length x.da.c,.slice x.wi.A x.wi.l.length x.wi.c,.string x.pl,.string x.se,.string x.ha,.slice x.ci.A x.ci.l.length x.ci.c] 112)).alloc (.cells #[.string ⟨#[]⟩,.slice none 0 0,.slice none 0 0,.string ⟨#[]⟩,.string ⟨#[]⟩,.string ⟨#[]⟩,.slice none 0 0] 81)).alloc (.cells #[.string x.nm,.slice none 0 0,.slice none 0 0,.string ⟨#[]⟩,.string ⟨#[]⟩,.string ⟨#[]⟩,.slice none 0 0] 81)):=((Up.alloc w _).allocs _).allocs _
 have hA:=((Bx.new w #[.string x.nm,.slice x.da.A x.da.l.length x.da.c,.slice x.wi.A x.wi.l.length x.wi.c,.string x.pl,.string x.se,.string x.ha,.slice x.ci.A x.ci.l.length x.ci.c] 112).up (Up.alloc _ (.cells #[.string ⟨#[]⟩,.slice none 0 0,.slice none 0 0,.string ⟨#[]⟩,.string ⟨#[]⟩,.string ⟨#[]⟩,.slice none 0 0] 81))).up (Up.alloc _ (.cells #[.string x.nm,.slice none 0 0,.slice none 0 0,.string ⟨#[]⟩,.string ⟨#[]⟩,.string ⟨#[]⟩,.slice none 0 0] 81))
 have hR:Bx (((w.alloc (.cells #[.string x.nm,.slice x.da.A x.da.l.length x.da.c,.slice x.wi.A x.wi.l.length x.wi.c,.string x.pl,.string x.se,.string x.ha,.slice x.ci.A x.ci.l.length x.ci.c] 112)).alloc (.cells #[.string ⟨#[]⟩,.slice none 0 0,.slice none 0 0,.string ⟨#[]⟩,.string ⟨#[]⟩,.string ⟨#[]⟩,.slice none 0 0] 81)).alloc (.cells #[.string x.nm,.slice none 0 0,.slice none 0 0,.string ⟨#[]⟩,.string ⟨#[]⟩,.string ⟨#[]⟩,.slice none 0 0] 81)) (w.heap.size+1) [.string ⟨#[]⟩,.slice none 0 0,.slice none 0 0,.string ⟨#[]⟩,.string ⟨#[]⟩,.string ⟨#[]⟩,.slice none 0 0]:=by
  have:=(Bx.new (w.alloc (.cells #[.string x.nm,.slice x.da.A x.da.l.length x.da.c,.slice x.wi.A x.wi.l.length x.wi.c,.string x.pl,.string x.se,.string x.ha,.slice x.ci.A x.ci.l.length x.ci.c] 112)) #[.string ⟨#[]⟩,.slice none 0 0,.slice none 0 0,.string ⟨#[]⟩,.string ⟨#[]⟩,.string ⟨#[]⟩,.slice none 0 0] 81).up (Up.alloc _ (.cells #[.string x.nm,.slice none 0 0,.slice none 0 0,.string ⟨#[]⟩,.string ⟨#[]⟩,.string ⟨#[]⟩,.slice none 0 0] 81))
  simpa using this
 have hO:Bx (((w.alloc (.cells #[.string x.nm,.slice x.da.A x.da.l.length x.da.c,.slice x.wi.A x.wi.l.length x.wi.c,.string x.pl,.string x.se,.string x.ha,.slice x.ci.A x.ci.l.length x.ci.c] 112)).alloc (.cells #[.string ⟨#[]⟩,.slice none 0 0,.slice none 0 0,.string ⟨#[]⟩,.string ⟨#[]⟩,.string ⟨#[]⟩,.slice none 0 0] 81)).alloc (.cells #[.string x.nm,.slice none 0 0,.slice none 0 0,.string ⟨#[]⟩,.string ⟨#[]⟩,.string ⟨#[]⟩,.slice none 0 0] 81)) (w.heap.size+1+1) [.string x.nm,.slice none 0 0,.slice none 0 0,.string ⟨#[]⟩,.string ⟨#[]⟩,.string ⟨#[]⟩,.slice none 0 0]:=by
  have:=Bx.new ((w.alloc (.cells #[.string x.nm,.slice x.da.A x.da.l.length x.da.c,.slice x.wi.A x.wi.l.length x.wi.c,.string x.pl,.string x.se,.string x.ha,.slice x.ci.A x.ci.l.length x.ci.c] 112)).alloc (.cells #[.string ⟨#[]⟩,.slice none 0 0,.slice none 0 0,.string ⟨#[]⟩,.string ⟨#[]⟩,.string ⟨#[]⟩,.slice none 0 0] 81)) #[.string x.nm,.slice none 0 0,.slice none 0 0,.string ⟨#[]⟩,.string ⟨#[]⟩,.string ⟨#[]⟩,.slice none 0 0] 81
  simpa using this
 have hsz:w.heap.size+3≤(((w.alloc (.cells #[.string x.nm,.slice x.da.A x.da.l.length x.da.c,.slice x.wi.A x.wi.l.length x.wi.c,.string x.pl,.string x.se,.string x.ha,.slice x.ci.A x.ci.l.length x.ci.c] 112)).alloc (.cells #[.string ⟨#[]⟩,.slice none 0 0,.slice none 0 0,.string ⟨#[]⟩,.string ⟨#[]⟩,.string ⟨#[]⟩,.slice none 0 0] 81)).alloc (.cells #[.string x.nm,.slice none 0 0,.slice none 0 0,.string ⟨#[]⟩,.string ⟨#[]⟩,.string ⟨#[]⟩,.slice none 0 0] 81)).heap.size:=by simp
 have oA:=OwA.nil_ (((w.alloc (.cells #[.string x.nm,.slice x.da.A x.da.l.length x.da.c,.slice x.wi.A x.wi.l.length x.wi.c,.string x.pl,.string x.se,.string x.ha,.slice x.ci.A x.ci.l.length x.ci.c] 112)).alloc (.cells #[.string ⟨#[]⟩,.slice none 0 0,.slice none 0 0,.string ⟨#[]⟩,.string ⟨#[]⟩,.string ⟨#[]⟩,.slice none 0 0] 81)).alloc (.cells #[.string x.nm,.slice none 0 0,.slice none 0 0,.string ⟨#[]⟩,.string ⟨#[]⟩,.string ⟨#[]⟩,.slice none 0 0] 81)) (w.heap.size+3)
 go_enter Tryz.func60,Tryz.ntmps60
 go_wp2_with fail
 generalize (((w.alloc (.cells #[.string x.nm,.slice x.da.A x.da.l.length x.da.c,.slice x.wi.A x.wi.l.length x.wi.c,.string x.pl,.string x.se,.string x.ha,.slice x.ci.A x.ci.l.length x.ci.c] 112)).alloc (.cells #[.string ⟨#[]⟩,.slice none 0 0,.slice none 0 0,.string ⟨#[]⟩,.string ⟨#[]⟩,.string ⟨#[]⟩,.slice none 0 0] 81)).alloc (.cells #[.string x.nm,.slice none 0 0,.slice none 0 0,.string ⟨#[]⟩,.string ⟨#[]⟩,.string ⟨#[]⟩,.slice none 0 0] 81))=w0 at *
 refine(toClauseS_any x.da.A x.da.l x.da.c lo hi _ (h.da.rd.up u h.da.hhi) (Nat.le_trans h.da.hhi u.size) h.da.len).mono ?_
 rintro e v1 ⟨q,rfl,o_da,v⟩
 obtain⟨da,rfl,e_da,-,-,o_da⟩:=own_sl o_da
 have E_da:=qh e_da
 clear e_da;replace oA:=oA.append v hsz (OwA.one (r:=rwClause da) o_da)
 replace u:=u.trans v;replace hA:=hA.up v;replace hR:=hR.up v;replace hO:=hO.up v;replace hsz:=Nat.le_trans hsz v.size;clear v;obtain⟨x0,x1,x2,x3,x4,x5,x6⟩:=hA.c7
 obtain⟨y0,y1,y2,y3,y4,y5,y6⟩:=hO.c7
 obtain⟨f0,f1,f2,f3,f4,f5,f6⟩:=hO.f7
 obtain⟨z0,z1,z2,z3,z4,z5,z6⟩:=hR.c7
 obtain⟨g0,g1,g2,g3,g4,g5,g6⟩:=hR.f7
 replace hO:=hO.put 1 (.slice da.A da.l.length da.c);replace hA:=hA.other (b':=w.heap.size+1+1) (by omega) 1 (.slice da.A da.l.length da.c)
 replace hR:=hR.other (b':=w.heap.size+1+1) (by omega) 1 (.slice da.A da.l.length da.c)
 replace oA:=oA.put (p:=⟨w.heap.size+1+1,1,none⟩) (show w.heap.size+1+1<w.heap.size+3 by omega) (.slice da.A da.l.length da.c)
 replace u:=u.setCell (p:=⟨w.heap.size+1+1,1,none⟩) (show w.heap.size≤w.heap.size+1+1 by omega) (.slice da.A da.l.length da.c)
 have hsz:w.heap.size+3≤(v1.setCell ⟨w.heap.size+1+1,1,none⟩ (.slice da.A da.l.length da.c)).heap.size:=by simpa using hsz
 go_wp2_with fail
 generalize (v1.setCell ⟨w.heap.size+1+1,1,none⟩ (.slice da.A da.l.length da.c))=w2 at *
 refine(toWitnessS_any x.wi.A x.wi.l x.wi.c lo hi _ (h.wi.rd.up u h.wi.hhi) (Nat.le_trans h.wi.hhi u.size) h.wi.len).mono ?_
 rintro e v3 ⟨q,rfl,o_wi,v⟩
 obtain⟨wi,rfl,e_wi,-,-,o_wi⟩:=own_sl o_wi
 have E_wi:=qh e_wi
 clear e_wi;replace oA:=oA.append v hsz (OwA.one (r:=rwWitness wi) o_wi)
 replace u:=u.trans v;replace hA:=hA.up v;replace hR:=hR.up v;replace hO:=hO.up v;replace hsz:=Nat.le_trans hsz v.size;clear v;obtain⟨x0,x1,x2,x3,x4,x5,x6⟩:=hA.c7
 obtain⟨y0,y1,y2,y3,y4,y5,y6⟩:=hO.c7
 obtain⟨f0,f1,f2,f3,f4,f5,f6⟩:=hO.f7
 obtain⟨z0,z1,z2,z3,z4,z5,z6⟩:=hR.c7
 obtain⟨g0,g1,g2,g3,g4,g5,g6⟩:=hR.f7
 replace hO:=hO.put 2 (.slice wi.A wi.l.length wi.c);replace hA:=hA.other (b':=w.heap.size+1+1) (by omega) 2 (.slice wi.A wi.l.length wi.c)
 replace hR:=hR.other (b':=w.heap.size+1+1) (by omega) 2 (.slice wi.A wi.l.length wi.c)
 replace oA:=oA.put (p:=⟨w.heap.size+1+1,2,none⟩) (show w.heap.size+1+1<w.heap.size+3 by omega) (.slice wi.A wi.l.length wi.c)
 replace u:=u.setCell (p:=⟨w.heap.size+1+1,2,none⟩) (show w.heap.size≤w.heap.size+1+1 by omega) (.slice wi.A wi.l.length wi.c)
 replace hO:=hO.put 3 (.string x.pl);replace hA:=hA.other (b':=w.heap.size+1+1) (by omega) 3 (.string x.pl)
 replace hR:=hR.other (b':=w.heap.size+1+1) (by omega) 3 (.string x.pl)
 replace oA:=oA.put (p:=⟨w.heap.size+1+1,3,none⟩) (show w.heap.size+1+1<w.heap.size+3 by omega) (.string x.pl)
 replace u:=u.setCell (p:=⟨w.heap.size+1+1,3,none⟩) (show w.heap.size≤w.heap.size+1+1 by omega) (.string x.pl)
 replace hO:=hO.put 4 (.string x.se);replace hA:=hA.other (b':=w.heap.size+1+1) (by omega) 4 (.string x.se)
 replace hR:=hR.other (b':=w.heap.size+1+1) (by omega) 4 (.string x.se)
 replace oA:=oA.put (p:=⟨w.heap.size+1+1,4,none⟩) (show w.heap.size+1+1<w.heap.size+3 by omega) (.string x.se)
 replace u:=u.setCell (p:=⟨w.heap.size+1+1,4,none⟩) (show w.heap.size≤w.heap.size+1+1 by omega) (.string x.se)
 replace hO:=hO.put 5 (.string x.ha);replace hA:=hA.other (b':=w.heap.size+1+1) (by omega) 5 (.string x.ha)
 replace hR:=hR.other (b':=w.heap.size+1+1) (by omega) 5 (.string x.ha)
 replace oA:=oA.put (p:=⟨w.heap.size+1+1,5,none⟩) (show w.heap.size+1+1<w.heap.size+3 by omega) (.string x.ha)
 replace u:=u.setCell (p:=⟨w.heap.size+1+1,5,none⟩) (show w.heap.size≤w.heap.size+1+1 by omega) (.string x.ha)
 have hsz:w.heap.size+3≤((((v3.setCell ⟨w.heap.size+1+1,2,none⟩ (.slice wi.A wi.l.length wi.c)).setCell ⟨w.heap.size+1+1,3,none⟩ (.string x.pl)).setCell ⟨w.heap.size+1+1,4,none⟩ (.string x.se)).setCell ⟨w.heap.size+1+1,5,none⟩ (.string x.ha)).heap.size:=by simpa using hsz
 go_wp2_with fail
 generalize ((((v3.setCell ⟨w.heap.size+1+1,2,none⟩ (.slice wi.A wi.l.length wi.c)).setCell ⟨w.heap.size+1+1,3,none⟩ (.string x.pl)).setCell ⟨w.heap.size+1+1,4,none⟩ (.string x.se)).setCell ⟨w.heap.size+1+1,5,none⟩ (.string x.ha))=w4 at *
 refine(toStringS_any x.ci.A x.ci.l x.ci.c lo hi _ (h.ci.rd.up u h.ci.hhi) (Nat.le_trans h.ci.hhi u.size) h.ci.len).mono ?_
 rintro e v5 ⟨q,rfl,o_ci,v⟩
 obtain⟨ci,rfl,e_ci,-,-,o_ci⟩:=own_sl o_ci
 have E_ci:=qh e_ci
 clear e_ci;replace oA:=oA.append v hsz (OwA.one (r:=rwStr ci) o_ci)
 replace u:=u.trans v;replace hA:=hA.up v;replace hR:=hR.up v;replace hO:=hO.up v;replace hsz:=Nat.le_trans hsz v.size;clear v;obtain⟨x0,x1,x2,x3,x4,x5,x6⟩:=hA.c7
 obtain⟨y0,y1,y2,y3,y4,y5,y6⟩:=hO.c7
 obtain⟨f0,f1,f2,f3,f4,f5,f6⟩:=hO.f7
 obtain⟨z0,z1,z2,z3,z4,z5,z6⟩:=hR.c7
 obtain⟨g0,g1,g2,g3,g4,g5,g6⟩:=hR.f7
 go_wp2;refine bodyPost_ret (v:=.agg #[.string x.nm,.slice da.A da.l.length da.c,.slice wi.A wi.l.length wi.c,.string x.pl,.string x.se,.string x.ha,.slice ci.A ci.l.length ci.c]) (by simp[results,Tryz.results60,go_sem,z0,z1,z2,z3,z4,z5,z6]) rfl ?_
 refine⟨⟨x.nm,da,wi,x.pl,x.se,x.ha,ci⟩,rfl,by simp only[Dd.p,E_da.out,E_wi.out,E_ci.out],?_,?_⟩
 ·refine OwA.base (b:=w.heap.size+3) ?_ (by omega)
  iterate 8 refine OwA.put ?_ (by first|(simp;done)|(simp;omega)) _
  exact oA
 ·iterate 8 refine Up.setCell ?_ (by first|(simp;done)|(simp;omega)) _
  exact u
theorem infoDeed:(Tryz.prog.info? 81).map (fun i=>(i.zero,i.size,i.bytes))=some (some (.agg #[.string ByteArray.empty,.slice none 0 0,.slice none 0 0,.string ByteArray.empty,.string ByteArray.empty,.string ByteArray.empty,.slice none 0 0]),7,136):=by kernel_rfl
theorem setDeed{xs:List Value}{L:List Dd}{k:Nat}{y:Dd}{n:Nat}(hx:xs.length=n*7)(hk:k<n)(ht:xs.take (k*7)=L.flatMap Dd.cells) :
 ((((((((xs.set (k*7) (.string y.nm)).set (k*7+1) (.slice y.da.A y.da.l.length y.da.c)).set (k*7+2) (.slice y.wi.A y.wi.l.length y.wi.c)).set (k*7+3) (.string y.pl)).set (k*7+4) (.string y.se)).set (k*7+5) (.string y.ha)).set (k*7+6) (.slice y.ci.A y.ci.l.length y.ci.c))).take ((k+1)*7)=(L++[y]).flatMap Dd.cells:=by
 rw[show(k+1)*7=k*7+6+1 by omega,take_set_succ (by simp;omega),take_set_succ (by simp;omega),take_set_succ (by simp;omega),take_set_succ (by simp;omega),take_set_succ (by simp;omega),take_set_succ (by simp;omega),take_set_succ (by omega),ht]
 simp
theorem toDeedS_any(s:Sl Dd)(lo hi:Nat)(w:World)(h:RdDd w lo hi s) :
 Calls Tryz.prog 24 #[.slice s.A s.l.length s.c] w fun e w'=>∃t:Sl Dd,e=.returned (.slice t.A t.l.length t.c)∧t.l.map Dd.p=s.l.map Dd.p∧OwA w' w.heap.size (rowsDd t)∧Up w w':=by
 obtain⟨A,c,l⟩:=s
 have hr:=h.rd
 have hhi:=h.hhi
 have hn:l.length≤2000000:=h.len
 have hea:=qh h.each
 clear h;obtain⟨i0,hi0,hz0,hz1,hz2⟩:=info_parts infoDeed
 show Calls _ _ #[.slice A l.length c] _ _
 go_enter Tryz.func24,Tryz.ntmps24
 go_wp2_with ((refine wpList_make_full _ rfl _ _ 60 rfl w.heap.size 81 i0 _ 7 Tryz.underlying60 hi0 hz0 hz1 _ _ _ _ l.length rfl rfl rfl rfl ?b2 ?b3 ?b4 ?_))
 all_goals try first|(rw[hz2];omega;done)|(omega;done)|(unfold maxLen;omega;done)|exact Nat.le_refl _
 intro w1 hown hg
 have hup1:Up w w1:=(Up.refl w).grown hg (fun k h=>by cases h)
 generalize (madeCells _ _).toList=xs0 at hown
 clear hg;have hw1:w.heap.size+1≤w1.heap.size∨l.length=0:=by
  rcases Nat.eq_zero_or_pos l.length with h0|h0
  ·exact .inr h0
  ·obtain⟨A',c',hv,-,-,hA,-⟩:=own_form hown
   simp only[Value.slice.injEq]at hv
   obtain⟨rfl,-,-⟩:=hv
   obtain⟨g',e,-,h⟩:=hA h0
   cases e;exact .inl h
 go_wp2;go_loopw [4] (fun i wr=>∃k:Nat,∃xs,∃L:List Dd,k≤l.length∧i=.int .i64 k∧L.length=k∧wr.ownsRow w.heap.size 81 7 (.slice (some ⟨w.heap.size,0,none⟩) l.length l.length) l.length xs∧xs.take (k*7)=L.flatMap Dd.cells∧L.map Dd.p=(l.take k).map Dd.p ∧
  OwA wr (w.heap.size+1) (L.flatMap rowsE)∧Up w wr) (fun i _=>l.length-(intOf i).toNat)
 case atStart=>exact⟨0,_,[],Nat.zero_le _,rfl,rfl,hown,by simp,by simp,OwA.nil_ _ _,hup1⟩
 case round =>
  obtain⟨k,xs,L,hk,rfl,hL,hown,hxs,hmap,hin,hup⟩:=hrel
  have HX:=qh hxs
  have HL:=qh hL
  have HM:=qh hmap
  have HIN:=qh hin
  clear hxs hL hmap hin;by_cases hlt:k<l.length
  ·obtain⟨b,off,d,rfl,hlo,hb,hd,q0,q1,q2,q3,q4,q5,q6⟩:=(hr.up hup hhi).dd hlt
   have HD:=qh hd
   clear hd;have hgs:w.heap.size<wr.heap.size:=by
    obtain⟨A',c',hv,-,-,hA,-⟩:=own_form hown
    simp only[Value.slice.injEq]at hv
    obtain⟨rfl,-,-⟩:=hv
    obtain⟨g',e,-,h⟩:=hA (by omega)
    cases e;exact h
   go_wp2_with (go_at_call 60;refine(toDeed_any d lo hi _ ((hea.out d (List.mem_of_getElem? HD.out)).up hup)).mono ?_;rintro e w' ⟨y,rfl,hyp,hyo,hup'⟩;have HY:=qh hyp;clear hyp;have HO:=qh (HIN.out.append hup' hgs hyo);clear hyo;have hown':=own_up hown hup';obtain⟨u0,r0⟩:=own_cell hown' (p:=k*7) (by omega);obtain⟨u1,r1⟩:=own_cell hown' (p:=k*7+1) (by omega);obtain⟨u2,r2⟩:=own_cell hown' (p:=k*7+2) (by omega);obtain⟨u3,r3⟩:=own_cell hown' (p:=k*7+3) (by omega);obtain⟨u4,r4⟩:=own_cell hown' (p:=k*7+4) (by omega);obtain⟨u5,r5⟩:=own_cell hown' (p:=k*7+5) (by omega);obtain⟨u6,r6⟩:=own_cell hown' (p:=k*7+6) (by omega);have z0:=hown'.frozenAt (k*7);have z1:=hown'.frozenAt (k*7+1);have z2:=hown'.frozenAt (k*7+2);have z3:=hown'.frozenAt (k*7+3);have z4:=hown'.frozenAt (k*7+4);have z5:=hown'.frozenAt (k*7+5);have z6:=hown'.frozenAt (k*7+6))
   go_roundw
   case rel=>exact⟨k+1,_,L++[y],by omega,by go_num,by rw[List.length_append,HL.out];rfl,(((((((hown'.stored _ _).1.stored _ _).1.stored _ _).1.stored _ _).1.stored _ _).1.stored _ _).1.stored _ _).1,setDeed hown'.1 hlt HX.out,
    by rw[List.map_append,HM.out,List.take_succ_eq_append_getElem hlt,List.map_append,(List.getElem?_eq_some_iff.1 HD.out).2];simp[HY.out],
    by
     rw[List.flatMap_append,List.flatMap_singleton];exact(OwA.put (OwA.put (OwA.put (OwA.put (OwA.put (OwA.put (OwA.put HO.out (by simp) _) (by simp) _) (by simp) _) (by simp) _) (by simp) _) (by simp) _) (by simp) _),
    ((((((((hup.trans hup').setCell (by simp) _).setCell (by simp) _).setCell (by simp) _).setCell (by simp) _).setCell (by simp) _).setCell (by simp) _).setCell (by simp) _)⟩
   case measure=>simp[intOf];omega
  ·go_wp2
   go_ret;have hk2:k=l.length:=by omega
   have hx:=HX.out
   have hm:=HM.out
   rw[hk2]at hx hm;rw[List.take_of_length_le (by rw[hown.1];omega)]at hx
   rw[List.take_of_length_le (Nat.le_refl _)]at hm;subst hx;have e:L.length=l.length:=by rw[HL.out,hk2]
   refine⟨⟨some ⟨w.heap.size,0,none⟩,l.length,L⟩,?_,hm,?_,hup⟩
   ·show _=Ending.returned (.slice _ L.length _)
    rw[e];rfl
   ·refine OwA.cons (B:=w.heap.size+1) ?_ (fun g hg=>by simp[Value.ownBlock]at hg;omega) HIN.out (by omega)
    show World.ownsRow _ _ _ _ (.slice _ L.length _) L.length _
    rw[e];exact hown
theorem toFormS_w(s:Sl Fm)(lo hi:Nat)(w:World)(h:SrF w lo hi s) :
 Calls Tryz.prog 25 #[.slice s.A s.l.length s.c] w fun e w'=>∃t:Sl Fm,e=.returned (.slice t.A t.l.length t.c)∧t.l.map Fm.p=s.l.map Fm.p∧OwA w' w.heap.size (rowsFm t)∧Up w w' :=
 (toForS s.A s.l s.c lo hi w h.rd h.hhi h.len h.ws).mono fun _ _ ⟨A',c',L,he,_,h2,_,_,_,_,h7,h8⟩=>⟨⟨A',c',L⟩,he,h2,OwnF.owa (g:=⟨A',c',L⟩) h7,h8⟩
theorem infoStrS:(Tryz.prog.info? 29).map (fun i=>(i.zero,i.size,i.bytes))=some (some (.slice none 0 0),1,24):=by kernel_rfl
theorem toStringSS_any(s:Sl (Sl ByteArray))(lo hi:Nat)(w:World)(h:SrPh w lo hi s) :
 Calls Tryz.prog 26 #[.slice s.A s.l.length s.c] w fun e w'=>∃t:Sl (Sl ByteArray),e=.returned (.slice t.A t.l.length t.c)∧phP t.l=phP s.l∧OwA w' w.heap.size (rowsPh t)∧Up w w':=by
 obtain⟨A,c,l⟩:=s
 have hr:=h.rd
 have hhi:=h.hhi
 have hn:l.length≤2000000:=h.len
 have hea:=qh h.each
 clear h;obtain⟨i0,hi0,hz0,hz1,hz2⟩:=info_parts infoStrS
 show Calls _ _ #[.slice A l.length c] _ _
 go_enter Tryz.func26,Tryz.ntmps26
 go_wp2_with ((refine wpList_make_full _ rfl _ _ 39 rfl w.heap.size 29 i0 _ 1 Tryz.underlying39 hi0 hz0 hz1 _ _ _ _ l.length rfl rfl rfl rfl ?b2 ?b3 ?b4 ?_))
 all_goals try first|(rw[hz2];omega;done)|(omega;done)|(unfold maxLen;omega;done)|exact Nat.le_refl _
 intro w1 hown hg
 have hup1:Up w w1:=(Up.refl w).grown hg (fun k h=>by cases h)
 generalize (madeCells _ _).toList=xs0 at hown
 clear hg;go_wp2;go_loopw [4] (fun i wr=>∃k:Nat,∃xs,∃L:List (Sl ByteArray),k≤l.length∧i=.int .i64 k∧L.length=k∧wr.ownsRow w.heap.size 29 1 (.slice (some ⟨w.heap.size,0,none⟩) l.length l.length) l.length xs∧xs.take k=L.flatMap phC∧L.map (fun p=>p.l)=(l.take k).map (fun p=>p.l) ∧
  OwA wr (w.heap.size+1) (L.map rwStr)∧Up w wr) (fun i _=>l.length-(intOf i).toNat)
 case atStart=>exact⟨0,_,[],Nat.zero_le _,rfl,rfl,hown,by simp,by simp,OwA.nil_ _ _,hup1⟩
 case round =>
  obtain⟨k,xs,L,hk,rfl,hL,hown,hxs,hmap,hin,hup⟩:=hrel
  have HX:=qh hxs
  have HL:=qh hL
  have HM:=qh hmap
  have HIN:=qh hin
  clear hxs hL hmap hin;by_cases hlt:k<l.length
  ·obtain⟨b,off,d,rfl,hlo,hb,hd,q0⟩:=(hr.up hup hhi).ph hlt
   have HD:=qh hd
   clear hd;have hgs:w.heap.size+1≤wr.heap.size:=by
    obtain⟨A',c',hv,-,-,hA,-⟩:=own_form hown
    simp only[Value.slice.injEq]at hv
    obtain⟨rfl,-,-⟩:=hv
    obtain⟨g',e,-,h⟩:=hA (by omega)
    cases e;exact h
   have hq:=(hea.out d (List.mem_of_getElem? HD.out)).up hup
   have HC:=qh (toStringS_any d.A d.l d.c lo hi wr hq.rd hq.hhi hq.len)
   clear hq;go_wp2_with fail
   refine HC.out.mono ?_
   rintro e w' ⟨v,rfl,hov,hup'⟩
   obtain⟨y,rfl,hy,-,-,hyo⟩:=own_sl hov
   have HY:=qh hy
   have HO:=qh (HIN.out.append hup' hgs (OwA.one (r:=rwStr y) hyo))
   have hown':=own_up hown hup'
   obtain⟨u0,r0⟩:=own_cell hown' (p:=k) (by omega)
   have z0:=hown'.frozenAt k
   clear hy hyo hov hup1 HC;go_wp2;go_roundw
   case rel=>exact⟨k+1,_,L++[y],by omega,by go_num,by rw[List.length_append,HL.out];rfl,(hown'.stored _ _).1,by
    rw[take_set_succ (by rw[hown'.1];omega),HX.out];simp,
    by rw[List.map_append,HM.out,List.take_succ_eq_append_getElem hlt,List.map_append,(List.getElem?_eq_some_iff.1 HD.out).2];simp[HY.out],
    by
     rw[List.map_append];exact OwA.put HO.out (by simp) _,
    (hup.trans hup').setCell (by simp) _⟩
   case measure=>simp[intOf];omega
  ·go_wp2
   go_ret;have hk2:k=l.length:=by omega
   have hx:=HX.out
   have hm:=HM.out
   rw[hk2]at hx hm;rw[List.take_of_length_le (by rw[hown.1];omega)]at hx
   rw[List.take_of_length_le (Nat.le_refl _)]at hm;subst hx;have e:L.length=l.length:=by rw[HL.out,hk2]
   refine⟨⟨some ⟨w.heap.size,0,none⟩,l.length,L⟩,?_,hm,?_,hup⟩
   ·show _=Ending.returned (.slice _ L.length _)
    rw[e];rfl
   ·refine OwA.cons (B:=w.heap.size+1) ?_ (fun g hg=>by simp[Value.ownBlock]at hg;omega) HIN.out (by omega)
    show World.ownsRow _ _ _ _ (.slice _ L.length _) L.length _
    rw[e];exact hown
end Go.Proofs.YtihcmhmanfobcaaGreatDoor
