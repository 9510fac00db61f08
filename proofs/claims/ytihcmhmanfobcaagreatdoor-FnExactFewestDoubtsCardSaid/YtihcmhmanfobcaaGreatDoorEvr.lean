/- Evidence that can be read, that says the same, and its marks. -/
import Derived.Test.YtihcmhmanfobcaaGreatDoorWoA
import Derived.Test.YtihcmhmanfobcaaGreatDoorWmE
namespace Go.Proofs.YtihcmhmanfobcaaGreatDoor
open Go.RowKit Go.Sort
structure EvR (w:World) (lo hi:Nat) (x:Wd) (s:Sl Dd) (g:Sl Fm) (q:Sl (Sl ByteArray)):Prop where
 a:RdW w lo hi x
 b:RdDd w lo hi s
 c:SrF w lo hi g
 d:SrPh w lo hi q
theorem EvR.up{w w':World}{lo hi:Nat}{x:Wd}{s:Sl Dd}{g:Sl Fm}{q:Sl (Sl ByteArray)}(h:EvR w lo hi x s g q)(u:Up w w'):EvR w' lo hi x s g q:=⟨h.a.up u,h.b.up u,h.c.up u,h.d.up u⟩
structure EvE (x x':Wd) (s s':Sl Dd) (g g':Sl Fm) (q q':Sl (Sl ByteArray)):Prop where
 a:x'.p=x.p
 b:s'.l.map Dd.p=s.l.map Dd.p
 c:g'.l.map Fm.p=g.l.map Fm.p
 d:phP q'.l=phP q.l
theorem EvE.symm{x x':Wd}{s s':Sl Dd}{g g':Sl Fm}{q q':Sl (Sl ByteArray)}(h:EvE x x' s s' g g' q q'):EvE x' x s' s g' g q' q:=⟨h.a.symm,h.b.symm,h.c.symm,h.d.symm⟩
theorem EvE.trans{x x' x2:Wd}{s s' s2:Sl Dd}{g g' g2:Sl Fm}{q q' q2:Sl (Sl ByteArray)}(h:EvE x x' s s' g g' q q')(k:EvE x' x2 s' s2 g' g2 q' q2):EvE x x2 s s2 g g2 q q2:=⟨k.a.trans h.a,k.b.trans h.b,k.c.trans h.c,k.d.trans h.d⟩
theorem rowsEv_parts{w:World}{b:Nat}{x:Wd}{s:Sl Dd}{g:Sl Fm}{q:Sl (Sl ByteArray)}(h:OwA w b (rowsEv x s g q)):OwA w b (rowsW x)∧OwA w b (rowsDd s)∧OwA w b (rowsFm g)∧OwA w b (rowsPh q) :=
 ⟨h.left,h.right.left,h.right.right.left,h.right.right.right⟩
theorem EvR.own{w w0:World}{b lo hi:Nat}{x x':Wd}{s s':Sl Dd}{g g':Sl Fm}{q q':Sl (Sl ByteArray)}(h:OwA w b (rowsEv x' s' g' q'))(e:EvE x x' s s' g g' q q')(k:EvR w0 lo hi x s g q):EvR w b w.heap.size x' s' g' q':=by
 obtain⟨h1,h2,h3,h4⟩:=rowsEv_parts h
 exact⟨h1.rdW e.a k.a,h2.rdDd e.b k.b,h3.rdF e.c k.c,h4.rdPh e.d k.d⟩
structure EvK (x:Wd) (s:Sl Dd) (g:Sl Fm) (q:Sl (Sl ByteArray)):Prop where
 rs:∀d∈x.rs.l,Nm.ok d
 ps:∀d∈x.ps.l,Nm.ok d
 ts:∀d∈x.ts.l,Tm.ok d
 pl:∀d∈x.pl.l,strOk d
 se:∀d∈x.se.l,Nm.ok d
 ha:∀d∈x.ha.l,Nm.ok d
 ws:∀d∈x.ws.l,I3.ok d
 st:∀d∈x.st.l,I3.ok d
 dd:∀d∈s.l,d.nm.size≤maxLen∧(∀z∈d.da.l,Cl.ok z)∧(∀z∈d.wi.l,Wi.ok z)∧d.pl.size≤maxLen∧d.se.size≤maxLen∧d.ha.size≤maxLen∧∀z∈d.ci.l,strOk z
 fm:∀z∈g.l,∀t∈z.ws,t.size≤maxLen
 ph:∀p∈q.l,∀t∈p.l,strOk t
theorem nW_nn(x:Wd):0≤nW x:=by unfold nW;omega
theorem nD_nn(d:Dd):0≤nD d:=by unfold nD;omega
theorem nF_nn(d:Fm):0≤nF d:=by unfold nF;omega
theorem nP_nn(d:Sl ByteArray):0≤nP d:=by unfold nP;omega
theorem nDs_nn(l:List Dd):0≤nDs l:=by have:=nL_nn nD_nn l;unfold nDs;omega
theorem nFs_nn(l:List Fm):0≤nFs l:=by have:=nL_nn nF_nn l;unfold nFs;omega
theorem nPs_nn(l:List (Sl ByteArray)):0≤nPs l:=by have:=nL_nn nP_nn l;unfold nPs;omega
theorem ev_sm{x:Wd}{s:Sl Dd}{g:Sl Fm}{q:Sl (Sl ByteArray)}(h:nEv x s g q≤2000000):SmEv x s g q:=by
 have h1:=nW_nn x
 have h2:=nDs_nn s.l
 have h3:=nFs_nn g.l
 have h4:=nPs_nn q.l
 have h5:=nL_nn nD_nn s.l
 have h6:=nL_nn nF_nn g.l
 have h7:=nL_nn nP_nn q.l
 unfold nEv at h
 refine⟨?_,⟨?_,fun d hd=>?_⟩,⟨?_,fun d hd=>?_⟩,⟨?_,fun d hd=>?_⟩⟩
 ·unfold nW at h h1
  refine⟨?_,⟨?_,?_⟩,⟨?_,?_⟩,?_,?_,?_⟩<;>omega
 ·unfold nDs at h;omega
 ·have:=nL_mem nD_nn s.l d hd
  have e:nD d=(d.da.l.length:Int)+d.wi.l.length+d.ci.l.length:=rfl
  unfold nDs at h
  refine⟨?_,?_,?_⟩<;>omega
 ·unfold nFs at h;omega
 ·have:=nL_mem nF_nn g.l d hd
  have e:nF d=(d.ws.length:Int):=rfl
  unfold nFs at h
  omega
 ·unfold nPs at h;omega
 ·have:=nL_mem nP_nn q.l d hd
  have e:nP d=(d.l.length:Int):=rfl
  unfold nPs at h
  omega
theorem cL_le{α:Type}{ct n:α→Int}{a b:Int}(h:∀x,ct x≤a+b*n x):∀l:List α,cL ct l≤a*l.length+b*nL n l
 | []=>by simp[cL,nL]
 | x :: l=>by
   have h1:=cL_le h l
   have h2:=h x
   simp only[cL,nL,List.length_cons]
   rw[Int.mul_add,Int.natCast_add,Int.mul_add];simp only[Int.natCast_one]
   omega
theorem cEv_le(x:Wd)(s:Sl Dd)(g:Sl Fm)(q:Sl (Sl ByteArray)):0≤cEv x s g q∧cEv x s g q≤8*nEv x s g q:=by
 have h1:cW x≤4*nW x:=by unfold cW nW;omega
 have h2:=cL_le (ct:=cD) (n:=nD) (a:=4) (b:=8) (fun d=>by unfold cD nD;omega) s.l
 have h3:=cL_le (ct:=cF) (n:=nF) (a:=2) (b:=1) (fun d=>by unfold cF nF;omega) g.l
 have h4:=cL_le (ct:=cP) (n:=nP) (a:=0) (b:=1) (fun d=>by unfold cP nP;omega) q.l
 have g1:=nW_nn x
 have g2:=nL_nn nD_nn s.l
 have g3:=nL_nn nF_nn g.l
 have g4:=nL_nn nP_nn q.l
 have f1:=cW_nn x
 have f2:=cL_nn cD_nn s.l
 have f3:=cL_nn cF_nn g.l
 have f4:=cL_nn cP_nn q.l
 unfold cEv nEv nDs nFs nPs cDs
 refine⟨?_,?_⟩<;>omega
theorem nL_map{α β:Type}{f:α→Int}{g:β→Int}{p:α→β}(h:∀x,f x=g (p x)):∀l:List α,nL f l=nL g (l.map p)
 | []=>rfl
 | x :: l=>by simp only[nL,List.map_cons,nL_map h l,h x]
def nDp(d:Pd):Int:=(d.da.length:Int)+d.wi.length+d.ci.length
theorem RawDd.sm{w:World}{lo hi:Nat}{s:Sl Dd}(h:RawDd w lo hi s)(k:s.l.length≤2000000∧∀d∈s.l,SmE d):RdDd w lo hi s :=
 ⟨h.rd,h.hhi,k.1,fun d hd=>(h.each d hd).rd (k.2 d hd),h.cap⟩
theorem EvR.raw{w:World}{lo hi:Nat}{x:Wd}{s:Sl Dd}{g:Sl Fm}{q:Sl (Sl ByteArray)}(h1:RawW w lo hi x)(h2:RawDd w lo hi s)(h3:RawF w lo hi g)(h4:RawPh w lo hi q)(m:SmEv x s g q):EvR w lo hi x s g q :=
 ⟨h1.rd m.1,RawDd.sm h2 m.2.1,h3.sr m.2.2.1,h4.sr m.2.2.2⟩
theorem EvR.k{w:World}{lo hi:Nat}{x:Wd}{s:Sl Dd}{g:Sl Fm}{q:Sl (Sl ByteArray)}(h:EvR w lo hi x s g q):EvK x s g q :=
 ⟨h.a.rs.ok,h.a.ps.ok,h.a.ts.ok,h.a.pl.ok,h.a.se.ok,h.a.ha.ok,h.a.ws.ok,h.a.st.ok,fun d hd=>by
  have k:=h.b.each d hd
  exact⟨k.nm,k.da.ok,k.wi.ok,k.pl,k.se,k.ha,k.ci.ok⟩,fun z hz=>(h.c.ok z hz).1,fun p hp=>(h.d.each p hp).ok⟩
theorem EvE.n{x x':Wd}{s s':Sl Dd}{g g':Sl Fm}{q q':Sl (Sl ByteArray)}(e:EvE x x' s s' g g' q q'):nEv x' s' g' q'=nEv x s g q:=by
 obtain⟨a1,a2,a3,a4⟩:=e
 have h1:nW x'=nW x:=by
  simp only[Wd.p,Pw.mk.injEq]at a1
  obtain⟨e1,-,-,e2,e3,e4,e5,e6,e7,e8⟩:=a1
  unfold nW;rw[e1,e2,e3,e4,e5,e6,e7,e8]
 have h2:nDs s'.l=nDs s.l:=by
  have l1:s'.l.length=s.l.length:=by simpa using congrArg List.length a2
  unfold nDs
  rw[nL_map (f:=nD) (g:=nDp) (p:=Dd.p) (fun _=>rfl) s'.l,nL_map (f:=nD) (g:=nDp) (p:=Dd.p) (fun _=>rfl) s.l,a2,l1]
 have h3:nFs g'.l=nFs g.l:=by
  have l1:g'.l.length=g.l.length:=by simpa using congrArg List.length a3
  unfold nFs
  rw[nL_map (f:=nF) (g:=fun z:List ByteArray × Int × Int=>(z.1.length:Int)) (p:=Fm.p) (fun _=>rfl) g'.l,nL_map (f:=nF) (g:=fun z:List ByteArray × Int × Int=>(z.1.length:Int)) (p:=Fm.p) (fun _=>rfl) g.l,a3,l1]
 have h4:nPs q'.l=nPs q.l:=by
  have l1:q'.l.length=q.l.length:=by simpa using congrArg List.length a4
  unfold nPs
  rw[nL_map (f:=nP) (g:=fun z:List ByteArray=>(z.length:Int)) (p:=fun p:Sl ByteArray=>p.l) (fun _=>rfl) q'.l,nL_map (f:=nP) (g:=fun z:List ByteArray=>(z.length:Int)) (p:=fun p:Sl ByteArray=>p.l) (fun _=>rfl) q.l,l1]
  exact congrArg (fun z=>(q.l.length:Int)+nL (fun z:List ByteArray=>(z.length:Int)) z) a4
 unfold nEv;rw[h1,h2,h3,h4]
theorem EvE.k{x x':Wd}{s s':Sl Dd}{g g':Sl Fm}{q q':Sl (Sl ByteArray)}(e:EvE x x' s s' g g' q q')(k:EvK x s g q):EvK x' s' g' q':=by
 obtain⟨a1,a2,a3,a4⟩:=e
 simp only[Wd.p,Pw.mk.injEq]at a1
 obtain⟨e1,-,-,e2,e3,e4,e5,e6,e7,e8⟩:=a1
 refine⟨by rw[e1];exact k.rs,by rw[e2];exact k.ps,by rw[e3];exact k.ts,by rw[e4];exact k.pl,by rw[e7];exact k.se,by rw[e8];exact k.ha,fun _ _=>trivial,fun _ _=>trivial,fun d hd=>?_,fun z hz=>?_,fun p hp=>?_⟩
 ·have h2:d.p∈s.l.map Dd.p:=by rw[← a2];exact List.mem_map_of_mem hd
  obtain⟨z,hz,e⟩:=List.mem_map.1 h2
  simp only[Dd.p,Pd.mk.injEq]at e
  obtain⟨f1,f2,f3,f4,f5,f6,f7⟩:=e
  have:=k.dd z hz
  rw[f1,f2,f3,f4,f5,f6,f7]at this;exact this
 ·have h2:z.p∈g.l.map Fm.p:=by rw[← a3];exact List.mem_map_of_mem hz
  obtain⟨y,hy,e⟩:=List.mem_map.1 h2
  have f1:y.ws=z.ws:=congrArg (·.1) e
  rw[← f1];exact k.fm y hy
 ·have h2:p.l∈phP q.l:=by rw[← a4];exact List.mem_map_of_mem hp
  obtain⟨y,hy,e⟩:=List.mem_map.1 h2
  rw[← e];exact k.ph y hy
theorem eqEv_e{x x':Wd}{s s':Sl Dd}{g g':Sl Fm}{q q':Sl (Sl ByteArray)}{w:World}{lo hi lo' hi':Nat}(r:EvR w lo hi x s g q)(k:EvR w lo' hi' x' s' g' q')(e:EvE x x' s s' g g' q q') :
 Calls Tryz.prog 9 #[.agg #[.slice x.rs.A x.rs.l.length x.rs.c,.int .i64 x.fr,.int .i64 x.to_,.slice x.ps.A x.ps.l.length x.ps.c,.slice x.ts.A x.ts.l.length x.ts.c,.slice x.pl.A x.pl.l.length x.pl.c,.slice x.ws.A x.ws.l.length x.ws.c,.slice x.st.A x.st.l.length x.st.c,.slice x.se.A x.se.l.length x.se.c,.slice x.ha.A x.ha.l.length x.ha.c,.slice s.A s.l.length s.c,.slice g.A g.l.length g.c,.slice q.A q.l.length q.c],.agg #[.slice x'.rs.A x'.rs.l.length x'.rs.c,.int .i64 x'.fr,.int .i64 x'.to_,.slice x'.ps.A x'.ps.l.length x'.ps.c,.slice x'.ts.A x'.ts.l.length x'.ts.c,.slice x'.pl.A x'.pl.l.length x'.pl.c,.slice x'.ws.A x'.ws.l.length x'.ws.c,.slice x'.st.A x'.st.l.length x'.st.c,.slice x'.se.A x'.se.l.length x'.se.c,.slice x'.ha.A x'.ha.l.length x'.ha.c,.slice s'.A s'.l.length s'.c,.slice g'.A g'.l.length g'.c,.slice q'.A q'.l.length q'.c]] w fun e w'=>e=.returned (.bool true)∧Up w w' :=
 eqEvidence_p x s g q x' s' g' q' lo hi lo' hi' w r.a r.b r.c r.d k.a k.b k.c k.d e.a e.b e.c e.d
def NB(L:List Rw)(b:Nat):Prop:=∀r∈L,r.v.ownBlock≠some b
end Go.Proofs.YtihcmhmanfobcaaGreatDoor
