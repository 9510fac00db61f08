/- What every law's row of this seat wants beside its walk: the witness's world with Go's two tables laid, the post of a call that only grew the world, and how slices of structs are opened. -/
import Derived.Test.YtihcmhmanfobcaaGreatDoorCards
import Derived.Test.YtihcmhmanfobcaaGreatDoorTie
import Derived.Test.YtihcmhmanfobcaaGreatDoorLib
import Derived.WalkKit
import Derived.ProofKit
import Derived.OpenShut
import Derived.Deep.DeepHandedRow
import Derived.Deep.Slices
import Derived.Deep.Fields
import Derived.Lib.LaidTab
import Derived.Carry
import Derived.SliceStrings
import Derived.Test.YtihcmhmanfobcaaGreatDoorVa
import Derived.Lib.SmallJoins
set_option maxRecDepth 100000
namespace Go.Proofs.YtihcmhmanfobcaaGreatDoor
open Go.ChangeShapes Go.WideShapes Go.ChangeAt Go.RowKit Go.Deep
theorem laidOut:laidOutB Tryz.prog=true:=by kernel_rfl
theorem ownGodebug:ownKnob Tryz.prog.godebug=none:=by kernel_rfl
section
variable {H:Type} {enc:TypeId × Value→H} {P:Program}
theorem trodAll_stays(hl:laidOutB P=true){W W':World}{sp':Nat→Bool}:∀{ts:List TypeId} {vs:List Value} {ds:List (DataW H)} {ps:List MemPlace},(∀t∈ts,P.readableRec t=true∧t<P.types.size) →
 DataW.TrodAll enc P W 0 (fun _=>true) true ts vs ds ps→(∀x∈ps,W.sameAt W' x)→(∀x∈ps,sp' x.block=true)→DataW.TrodAll enc P W' 0 sp' true ts vs ds ps
 | [],vs,ds,ps,_,h,_,_=>by
   obtain⟨rfl,rfl,rfl⟩:=trodAll_nil h
   exact trodAll_mk0
 | t :: ts,vs,ds,ps,ht,h,hs,hp=>by
   obtain⟨v0,vs0,d0,ds0,p0,q0,rfl,rfl,rfl,h0,r0⟩:=trodAll_cons h
   have k:=ht t (List.mem_cons_self ..)
   exact trodAll_cons_mk (WideElems.Trod_stays hl k.1 k.2 h0 (fun x hx=>hs x (List.mem_append_left _ hx)) (fun x hx=>hp x (List.mem_append_left _ hx)))
    (trodAll_stays hl (fun t' ht'=>ht t' (List.mem_cons_of_mem _ ht')) r0 (fun x hx=>hs x (List.mem_append_right _ hx)) (fun x hx=>hp x (List.mem_append_right _ hx)))
theorem post_of_below{f:Func}{s:ChangeSpec}{apart fresh handsOn again:Bool}{W W':World}{args:Array Value}{v:Value}{ds gs:List (DataW H)}{before pa pv:List MemPlace}
 (hW:DataW.Whole enc P f.params.toList s.vars apart W args.toList ds gs before)
 (hres:∀(b:Nat) (sp:Nat→Bool) (hd:Bool),DataW.TrodAll enc P W' b sp hd f.resultTypes.toList (v.resultList f.resultTypes.size) (s.fn H (ds++gs)).results [])
 (hargs:∀sp:Nat→Bool,(∀p∈before,sp p.block=true)→DataW.TrodAll enc P W' 0 sp true f.params.toList args.toList (s.fn H (ds++gs)).args pa)
 (hvars:∀sp:Nat→Bool,(∀p∈before,sp p.block=true)→DataW.TrodVars enc P W' sp s.vars (s.fn H (ds++gs)).vars pv)
 (hps:before=pa++pv) (hb:Below W.heap.size W W')
 (hok:∀(j:Nat) (t:TypeId) (r:Value),f.resultTypes[j]?=some t→(v.resultList f.resultTypes.size)[j]?=some r→Value.okWide P W' .any 0 t r) :
 s.post enc P f apart fresh handsOn again W args v W':=by
 have hlt:∀p∈before,p.block<W.heap.size:=fun p hp=>hW.lt p hp
 have hold:∀p∈before,(fun b=>decide (b<W.heap.size)) p.block=true:=fun p hp=>by simpa using hlt p hp
 refine⟨ds,gs,before,[],pa,pv,hW,hres _ _ _,hargs _ hold,hvars _ hold,World.keptBut_mono (fun p hp=>⟨hp,?_⟩) (hb.frame (·∈before)),fun _=>?_⟩
 ·rw[hps,List.mem_append]at hp
  exact Or.inr hp
 ·obtain⟨_,_,_,_,_,hz,hn⟩:=hW
  refine⟨hok,_,_,([]++pa)++pv,⟨[]++pa,pv,trodAll_append (hargs _ (fun _ _=>rfl)) (hres _ _ _),hvars _ (fun _ _=>rfl),rfl,?_,?_⟩,?_⟩
  ·intro b off hp
   have hin:MemPlace.cell b off∈before:=by rw[hps];simpa using hp
   rw[hb.frozen (hlt _ hin)];exact hz b off hin
  ·intro ha
   have:=hn ha
   rw[hps]at this;simpa using this
  ·intro p hp _
   rw[hps];simpa using hp
theorem law_post{f:Func}{s:ChangeSpec}{W W':World}{args:Array Value}{ds:List (DataW H)}{p:List MemPlace}{tb:TypeId}(hl:laidOutB P=true)(hps:∀t∈f.params.toList,P.readableRec t=true∧t<P.types.size)
 (hvars:s.vars=[]) (hres:f.resultTypes=#[tb]) (hb:P.underlying tb=some .bool) (hfn:s.fn H ds={ results:=[.lit (.bool true)],args:=ds })
 (hW:DataW.Whole enc P f.params.toList s.vars false W args.toList ds [] p) (hA:DataW.TrodAll enc P W 0 (fun _=>true) true f.params.toList args.toList ds p) (hu:Below W.heap.size W W') :
 s.post enc P f false true false false W args (.bool true) W':=by
 have hlt:∀x∈p,x.block<W.heap.size:=fun x hx=>hW.lt x hx
 refine post_of_below (pa:=p) (pv:=[]) hW (fun b sp hd=>?_) (fun sp hsp=>?_) (fun sp hsp=>?_) (by simp) hu ?_
 ·rw[List.append_nil,hfn,hres];exact trodAll_cons_mk (shut_bool hb _) trodAll_mk0
 ·rw[List.append_nil,hfn];exact trodAll_stays hl hps hA (fun x hx=>hu.same (hlt x hx)) hsp
 ·rw[List.append_nil,hfn,hvars];rfl
 ·exact ok_one hres rfl (okWide_bool_mk hb _)
end
theorem addr_of_cell{w:World}{a:Addr}{n:Nat}{v:Value}(h:w.cell? (a.add n)=some v):∃b off,a=⟨b,off,none⟩∨n≠0:=by
 obtain⟨b,off,spot⟩:=a
 by_cases hn:n=0
 ·subst hn
  have hspot:spot=none:=by simpa[Addr.add] using World.cell?_spot h
  subst hspot;exact⟨b,off,.inl rfl⟩
 ·exact⟨b,off,.inr hn⟩
theorem add_plain'(b off n:Nat):(⟨b,off,none⟩:Addr).add n=⟨b,off+n,none⟩:=Go.WideShapes.add_plain ..
def putCells(cs:Array Value):Obj→Obj
 | .cells _ t fz=>.cells cs t fz
 | o=>o
noncomputable def laidWorld (os:Os):World :=
 { World.holding Tryz.prog os ⟨#[],#[],[]⟩ with heap:=((World.holding Tryz.prog os ⟨#[],#[],[]⟩).heap.modify 0 (putCells (Go.Pinned.utf8FirstZ.map fun n:Nat=>Value.int .u8 (n:Int)).toArray)).modify 1 (putCells #[.int .u8 128,.int .u8 191,.int .u8 160,.int .u8 191,.int .u8 128,.int .u8 159,.int .u8 144,.int .u8 191,.int .u8 128,.int .u8 143,.int .u8 0,.int .u8 0,.int .u8 0,.int .u8 0,.int .u8 0,.int .u8 0,.int .u8 0,.int .u8 0,.int .u8 0,.int .u8 0,.int .u8 0,.int .u8 0,.int .u8 0,.int .u8 0,.int .u8 0,.int .u8 0,.int .u8 0,.int .u8 0,.int .u8 0,.int .u8 0,.int .u8 0,.int .u8 0]) }
theorem cellsString:Tryz.prog.cellsOf 9=1:=by kernel_rfl
theorem strs_at{w:World}{a:Addr}{zs:List ByteArray}(h:∀i,i<zs.length→w.cell? (a.add i)=some (.string (zs.getD i ByteArray.empty)))(hp:0<zs.length) :
 ∃b off,a=⟨b,off,none⟩∧∀j,j<zs.length→w.cell? ⟨b,off+j,none⟩=some (.string (zs.getD j ByteArray.empty)):=by
 obtain⟨b,off,e|e⟩:=addr_of_cell (h 0 hp)
 ·subst e
  exact⟨b,off,rfl,fun j hj=>by rw[← Go.WideShapes.add_plain];exact h j hj⟩
 ·exact absurd rfl e
section
variable {H:Type} {enc:TypeId × Value→H}
theorem open_strs_cells{W:World}{v:Value}{fuel:Nat}{y:DataW H × List MemPlace}(h:DataW.trod enc Tryz.prog W 0 (fun _=>true) true fuel 29 [v]=some y) :
 ∃A n c,v=.slice A n c∧n≤c∧c≤maxLen∧∃l:List ByteArray,l.length=n∧RdT W 0 W.heap.size A l∧∀z∈l,z.size≤maxLen:=by
 rcases open_strings Tryz.underlying29 Tryz.underlying9 cellsString h with⟨hcs,hx⟩|⟨a,len,cap,zs,hcs,_,hl,hm,hz,hx,hcell,hwz⟩
 ·simp only[List.cons.injEq,and_true]at hcs
  subst hcs;exact⟨none,0,0,rfl,Nat.le_refl _,by simp[maxLen],[],rfl,Rd.nil_,by simp⟩
 ·simp only[List.cons.injEq,and_true]at hcs
  subst hcs;simp only[if_true]at hz
  refine⟨some a,len,cap,rfl,hl,hm,zs.take len,by rw[List.length_take];omega,fun hne=>?_,fun z hz'=>hwz z (List.mem_of_mem_take hz')⟩
  have hpos:0<len:=by
   rcases Nat.eq_zero_or_pos len with h0|h0
   ·subst h0;simp at hne
   ·exact h0
  obtain⟨b,off,rfl,hc⟩:=strs_at hcell (by omega)
  refine⟨b,off,rfl,Nat.zero_le _,block_lt_of_cell (hc 0 (by omega)),fun i x hx j u hu=>?_⟩
  rw[List.getElem?_take]at hx;split at hx
  ·rename_i hi
   match j,hu with
   | 0,hu =>
     simp at hu;subst hu
     have:=hc i (by omega)
     rw[List.getD_eq_getElem?_getD,hx]at this;simpa using this
  ·cases hx
end
theorem lst2{α:Type}{l:List α}(h:l.length=2):∃c0 c1,l=[c0,c1]:=by
 match l,h with
 | [c0,c1],_=>exact⟨c0,c1,rfl⟩
theorem lst3{α:Type}{l:List α}(h:l.length=3):∃c0 c1 c2,l=[c0,c1,c2]:=by
 match l,h with
 | [c0,c1,c2],_=>exact⟨c0,c1,c2,rfl⟩
theorem lst4{α:Type}{l:List α}(h:l.length=4):∃c0 c1 c2 c3,l=[c0,c1,c2,c3]:=by
 match l,h with
 | [c0,c1,c2,c3],_=>exact⟨c0,c1,c2,c3,rfl⟩
theorem lst6{α:Type}{l:List α}(h:l.length=6):∃c0 c1 c2 c3 c4 c5,l=[c0,c1,c2,c3,c4,c5]:=by
 match l,h with
 | [c0,c1,c2,c3,c4,c5],_=>exact⟨c0,c1,c2,c3,c4,c5,rfl⟩
theorem lst7{α:Type}{l:List α}(h:l.length=7):∃c0 c1 c2 c3 c4 c5 c6,l=[c0,c1,c2,c3,c4,c5,c6]:=by
 match l,h with
 | [c0,c1,c2,c3,c4,c5,c6],_=>exact⟨c0,c1,c2,c3,c4,c5,c6,rfl⟩
theorem lst8{α:Type}{l:List α}(h:l.length=8):∃c0 c1 c2 c3 c4 c5 c6 c7,l=[c0,c1,c2,c3,c4,c5,c6,c7]:=by
 match l,h with
 | [c0,c1,c2,c3,c4,c5,c6,c7],_=>exact⟨c0,c1,c2,c3,c4,c5,c6,c7,rfl⟩
theorem lst10{α:Type}{l:List α}(h:l.length=10):∃c0 c1 c2 c3 c4 c5 c6 c7 c8 c9,l=[c0,c1,c2,c3,c4,c5,c6,c7,c8,c9]:=by
 match l,h with
 | [c0,c1,c2,c3,c4,c5,c6,c7,c8,c9],_=>exact⟨c0,c1,c2,c3,c4,c5,c6,c7,c8,c9,rfl⟩
theorem lst13{α:Type}{l:List α}(h:l.length=13):∃c0 c1 c2 c3 c4 c5 c6 c7 c8 c9 c10 c11 c12,l=[c0,c1,c2,c3,c4,c5,c6,c7,c8,c9,c10,c11,c12]:=by
 match l,h with
 | [c0,c1,c2,c3,c4,c5,c6,c7,c8,c9,c10,c11,c12],_=>exact⟨c0,c1,c2,c3,c4,c5,c6,c7,c8,c9,c10,c11,c12,rfl⟩
theorem cI64:Tryz.prog.cellsOf 2=1:=by kernel_rfl
theorem cStr:Tryz.prog.cellsOf 9=1:=by kernel_rfl
theorem cS_Reign:Tryz.prog.cellsOf 22=1:=by kernel_rfl
theorem cS_Person:Tryz.prog.cellsOf 25=1:=by kernel_rfl
theorem cS_Term:Tryz.prog.cellsOf 26=1:=by kernel_rfl
theorem cS_Way:Tryz.prog.cellsOf 30=1:=by kernel_rfl
theorem cS_Stay:Tryz.prog.cellsOf 33=1:=by kernel_rfl
theorem cS_Mark:Tryz.prog.cellsOf 34=1:=by kernel_rfl
theorem cS_Clause:Tryz.prog.cellsOf 109=1:=by kernel_rfl
theorem cS_Witness:Tryz.prog.cellsOf 110=1:=by kernel_rfl
theorem cS_Deed:Tryz.prog.cellsOf 37=1:=by kernel_rfl
theorem cS_Formula:Tryz.prog.cellsOf 38=1:=by kernel_rfl
theorem cS_String:Tryz.prog.cellsOf 29=1:=by kernel_rfl
section
variable {H:Type} {enc:TypeId × Value→H}
theorem open_list{α:Type}[Inhabited α]{W:World}{T E:TypeId}{m:Nat}{f:α→List Value}{Q:α→Prop}(hT:Tryz.prog.underlying T=some (.slice E))(hC:Tryz.prog.cellsOf E=m)(hm0:0<m)(hf:∀x,(f x).length=m)
 (hel:∀(fuel:Nat) (cs:List Value) (y:DataW H × List MemPlace),DataW.trod enc Tryz.prog W 0 (fun _=>true) true fuel E cs=some y→∃x,cs=f x∧Q x)
 {fuel:Nat} {v:Value} {y:DataW H × List MemPlace} (h:DataW.trod enc Tryz.prog W 0 (fun _=>true) true fuel T [v]=some y) :
 ∃s:Sl α,v=.slice s.A s.l.length s.c∧Rd W 0 W.heap.size m f s.A s.l∧(∀x∈s.l,Q x)∧s.l.length≤s.c∧s.c≤maxLen:=by
 rcases open_slice hT h with⟨hcs,hx⟩|⟨a,len,cap,m',n,D,Pl,hcs,hb,hl,hm,hmm,hx,hi⟩
 ·simp only[List.cons.injEq,and_true]at hcs
  subst hcs;exact⟨⟨none,0,[]⟩,rfl,Rd.nil_,by simp,Nat.le_refl _,by simp[maxLen]⟩
 ·simp only[List.cons.injEq,and_true]at hcs
  subst hcs;simp only[if_true]at hmm
  subst hmm;have hex:∀i,i<len→∃x,Q x∧∀j u,(f x)[j]?=some u→W.cell? (a.add (i*m+j))=some u:=by
   intro i hin
   obtain⟨cs',hc,ht'⟩:=hi i (by omega)
   rw[hC]at hc;obtain⟨x,rfl,hq⟩:=hel _ _ _ ht'
   obtain⟨_,hcl,hat⟩:=World.cells?_some hc
   refine⟨x,hq,fun j u hu=>?_⟩
   have hj:j<m:=by rw[← hf x];exact(List.getElem?_eq_some_iff.1 hu).1
   rw[← Go.Deep.add_add,hat j hj,hu]
  obtain⟨E',hE⟩:=choose_lt hex
  have hmem:∀d∈(List.range len).map E',Q d:=by
   intro d hd
   simp only[List.mem_map,List.mem_range]at hd
   obtain⟨i,hi1,rfl⟩:=hd
   exact(hE i hi1).1
  refine⟨⟨some a,m',(List.range len).map E'⟩,by simp,fun hne=>?_,hmem,by simpa using hl,hm⟩
  have hn:0<len:=by
   rcases Nat.eq_zero_or_pos len with h0|h0
   ·subst h0;simp at hne
   ·exact h0
  obtain⟨u0,hu0⟩:∃u,(f (E' 0))[0]?=some u:=⟨_,List.getElem?_eq_getElem (by rw[hf];exact hm0)⟩
  have h0:=(hE 0 hn).2 0 u0 hu0
  rw[Nat.zero_mul]at h0;obtain⟨b,off,e|e⟩:=addr_of_cell h0
  ·subst e
   refine⟨b,off,rfl,Nat.zero_le _,by have:=block_lt_of_cell h0;rwa [add_plain']at this,fun i x hx j u hu=>?_⟩
   simp only at hx
   rw[List.getElem?_map]at hx;obtain⟨hi1,hi2⟩:i<len∧E' i=x:=by
    rcases Nat.lt_or_ge i len with h|h
    ·rw[List.getElem?_range h]at hx;exact⟨h,by simpa using hx⟩
    ·rw[List.getElem?_eq_none (by simpa using h)]at hx;cases hx
   subst hi2;have:=(hE i hi1).2 j u hu
   rw[add_plain']at this;rwa [Nat.add_assoc]
  ·exact absurd rfl e
theorem c_Reign{W:World}(fuel:Nat)(cs:List Value)(y:DataW H × List MemPlace)(h:DataW.trod enc Tryz.prog W 0 (fun _=>true) true fuel 212 cs=some y):∃x:Nm,cs=x.cells∧x.ok:=by
 obtain⟨xs,n,-,-,hl,hx,hf⟩:=DataW.trod_struct Tryz.underlying212 h
 obtain⟨c0,c1,c2,rfl⟩:=lst3 (hl.trans (by kernel_rfl))
 obtain⟨y0,y1,y2,rfl⟩:=lst3 (hx.trans rfl)
 have t0:DataW.trod enc Tryz.prog W 0 (fun _=>true) true n 9 [c0]=some y0:=by simpa[cStr] using hf 0 _ rfl
 obtain⟨v0,e0,-,z0⟩:=DataW.trod_string Tryz.underlying9 t0
 have t1:DataW.trod enc Tryz.prog W 0 (fun _=>true) true n 2 [c1]=some y1:=by simpa[cI64] using hf 1 _ rfl
 obtain⟨v1,e1,-,-⟩:=DataW.trod_int Tryz.underlying2 t1
 have t2:DataW.trod enc Tryz.prog W 0 (fun _=>true) true n 2 [c2]=some y2:=by simpa[cI64] using hf 2 _ rfl
 obtain⟨v2,e2,-,-⟩:=DataW.trod_int Tryz.underlying2 t2
 simp only[List.cons.injEq,and_true]at e0 e1 e2
 subst e0 e1 e2
 exact⟨⟨v0,v1,v2⟩,rfl,z0⟩
instance:Inhabited Nm:=⟨⟨ByteArray.empty,0,0⟩⟩
theorem s_Reign{W:World}{fuel:Nat}{v:Value}{y:DataW H × List MemPlace}(h:DataW.trod enc Tryz.prog W 0 (fun _=>true) true fuel 22 [v]=some y):∃s:Sl Nm,v=.slice s.A s.l.length s.c∧SqNm W 0 W.heap.size s:=by
 obtain⟨s,e,h1,h2,h3,h4⟩:=open_list Tryz.underlying22 (by kernel_rfl) (by decide) Nm.len c_Reign h
 exact⟨s,e,h1,Nat.le_refl _,Nat.le_trans h3 h4,h2,h3,h4⟩
theorem c_Person{W:World}(fuel:Nat)(cs:List Value)(y:DataW H × List MemPlace)(h:DataW.trod enc Tryz.prog W 0 (fun _=>true) true fuel 214 cs=some y):∃x:Nm,cs=x.cells∧x.ok:=by
 obtain⟨xs,n,-,-,hl,hx,hf⟩:=DataW.trod_struct Tryz.underlying214 h
 obtain⟨c0,c1,c2,rfl⟩:=lst3 (hl.trans (by kernel_rfl))
 obtain⟨y0,y1,y2,rfl⟩:=lst3 (hx.trans rfl)
 have t0:DataW.trod enc Tryz.prog W 0 (fun _=>true) true n 9 [c0]=some y0:=by simpa[cStr] using hf 0 _ rfl
 obtain⟨v0,e0,-,z0⟩:=DataW.trod_string Tryz.underlying9 t0
 have t1:DataW.trod enc Tryz.prog W 0 (fun _=>true) true n 2 [c1]=some y1:=by simpa[cI64] using hf 1 _ rfl
 obtain⟨v1,e1,-,-⟩:=DataW.trod_int Tryz.underlying2 t1
 have t2:DataW.trod enc Tryz.prog W 0 (fun _=>true) true n 2 [c2]=some y2:=by simpa[cI64] using hf 2 _ rfl
 obtain⟨v2,e2,-,-⟩:=DataW.trod_int Tryz.underlying2 t2
 simp only[List.cons.injEq,and_true]at e0 e1 e2
 subst e0 e1 e2
 exact⟨⟨v0,v1,v2⟩,rfl,z0⟩
theorem s_Person{W:World}{fuel:Nat}{v:Value}{y:DataW H × List MemPlace}(h:DataW.trod enc Tryz.prog W 0 (fun _=>true) true fuel 25 [v]=some y):∃s:Sl Nm,v=.slice s.A s.l.length s.c∧SqNm W 0 W.heap.size s:=by
 obtain⟨s,e,h1,h2,h3,h4⟩:=open_list Tryz.underlying25 (by kernel_rfl) (by decide) Nm.len c_Person h
 exact⟨s,e,h1,Nat.le_refl _,Nat.le_trans h3 h4,h2,h3,h4⟩
theorem c_Mark{W:World}(fuel:Nat)(cs:List Value)(y:DataW H × List MemPlace)(h:DataW.trod enc Tryz.prog W 0 (fun _=>true) true fuel 157 cs=some y):∃x:Nm,cs=x.cells∧x.ok:=by
 obtain⟨xs,n,-,-,hl,hx,hf⟩:=DataW.trod_struct Tryz.underlying157 h
 obtain⟨c0,c1,c2,rfl⟩:=lst3 (hl.trans (by kernel_rfl))
 obtain⟨y0,y1,y2,rfl⟩:=lst3 (hx.trans rfl)
 have t0:DataW.trod enc Tryz.prog W 0 (fun _=>true) true n 9 [c0]=some y0:=by simpa[cStr] using hf 0 _ rfl
 obtain⟨v0,e0,-,z0⟩:=DataW.trod_string Tryz.underlying9 t0
 have t1:DataW.trod enc Tryz.prog W 0 (fun _=>true) true n 2 [c1]=some y1:=by simpa[cI64] using hf 1 _ rfl
 obtain⟨v1,e1,-,-⟩:=DataW.trod_int Tryz.underlying2 t1
 have t2:DataW.trod enc Tryz.prog W 0 (fun _=>true) true n 2 [c2]=some y2:=by simpa[cI64] using hf 2 _ rfl
 obtain⟨v2,e2,-,-⟩:=DataW.trod_int Tryz.underlying2 t2
 simp only[List.cons.injEq,and_true]at e0 e1 e2
 subst e0 e1 e2
 exact⟨⟨v0,v1,v2⟩,rfl,z0⟩
theorem s_Mark{W:World}{fuel:Nat}{v:Value}{y:DataW H × List MemPlace}(h:DataW.trod enc Tryz.prog W 0 (fun _=>true) true fuel 34 [v]=some y):∃s:Sl Nm,v=.slice s.A s.l.length s.c∧SqNm W 0 W.heap.size s:=by
 obtain⟨s,e,h1,h2,h3,h4⟩:=open_list Tryz.underlying34 (by kernel_rfl) (by decide) Nm.len c_Mark h
 exact⟨s,e,h1,Nat.le_refl _,Nat.le_trans h3 h4,h2,h3,h4⟩
theorem c_Term{W:World}(fuel:Nat)(cs:List Value)(y:DataW H × List MemPlace)(h:DataW.trod enc Tryz.prog W 0 (fun _=>true) true fuel 217 cs=some y):∃x:Tm,cs=x.cells∧x.ok:=by
 obtain⟨xs,n,-,-,hl,hx,hf⟩:=DataW.trod_struct Tryz.underlying217 h
 obtain⟨c0,c1,c2,c3,rfl⟩:=lst4 (hl.trans (by kernel_rfl))
 obtain⟨y0,y1,y2,y3,rfl⟩:=lst4 (hx.trans rfl)
 have t0:DataW.trod enc Tryz.prog W 0 (fun _=>true) true n 9 [c0]=some y0:=by simpa[cStr] using hf 0 _ rfl
 obtain⟨v0,e0,-,z0⟩:=DataW.trod_string Tryz.underlying9 t0
 have t1:DataW.trod enc Tryz.prog W 0 (fun _=>true) true n 9 [c1]=some y1:=by simpa[cStr] using hf 1 _ rfl
 obtain⟨v1,e1,-,z1⟩:=DataW.trod_string Tryz.underlying9 t1
 have t2:DataW.trod enc Tryz.prog W 0 (fun _=>true) true n 2 [c2]=some y2:=by simpa[cI64] using hf 2 _ rfl
 obtain⟨v2,e2,-,-⟩:=DataW.trod_int Tryz.underlying2 t2
 have t3:DataW.trod enc Tryz.prog W 0 (fun _=>true) true n 2 [c3]=some y3:=by simpa[cI64] using hf 3 _ rfl
 obtain⟨v3,e3,-,-⟩:=DataW.trod_int Tryz.underlying2 t3
 simp only[List.cons.injEq,and_true]at e0 e1 e2 e3
 subst e0 e1 e2 e3
 exact⟨⟨v0,v1,v2,v3⟩,rfl,⟨z0,z1⟩⟩
instance:Inhabited Tm:=⟨⟨ByteArray.empty,ByteArray.empty,0,0⟩⟩
theorem s_Term{W:World}{fuel:Nat}{v:Value}{y:DataW H × List MemPlace}(h:DataW.trod enc Tryz.prog W 0 (fun _=>true) true fuel 26 [v]=some y):∃s:Sl Tm,v=.slice s.A s.l.length s.c∧SqTm W 0 W.heap.size s:=by
 obtain⟨s,e,h1,h2,h3,h4⟩:=open_list Tryz.underlying26 (by kernel_rfl) (by decide) Tm.len c_Term h
 exact⟨s,e,h1,Nat.le_refl _,Nat.le_trans h3 h4,h2,h3,h4⟩
theorem c_Way{W:World}(fuel:Nat)(cs:List Value)(y:DataW H × List MemPlace)(h:DataW.trod enc Tryz.prog W 0 (fun _=>true) true fuel 239 cs=some y):∃x:I3,cs=x.cells∧x.ok:=by
 obtain⟨xs,n,-,-,hl,hx,hf⟩:=DataW.trod_struct Tryz.underlying239 h
 obtain⟨c0,c1,c2,rfl⟩:=lst3 (hl.trans (by kernel_rfl))
 obtain⟨y0,y1,y2,rfl⟩:=lst3 (hx.trans rfl)
 have t0:DataW.trod enc Tryz.prog W 0 (fun _=>true) true n 2 [c0]=some y0:=by simpa[cI64] using hf 0 _ rfl
 obtain⟨v0,e0,-,-⟩:=DataW.trod_int Tryz.underlying2 t0
 have t1:DataW.trod enc Tryz.prog W 0 (fun _=>true) true n 2 [c1]=some y1:=by simpa[cI64] using hf 1 _ rfl
 obtain⟨v1,e1,-,-⟩:=DataW.trod_int Tryz.underlying2 t1
 have t2:DataW.trod enc Tryz.prog W 0 (fun _=>true) true n 2 [c2]=some y2:=by simpa[cI64] using hf 2 _ rfl
 obtain⟨v2,e2,-,-⟩:=DataW.trod_int Tryz.underlying2 t2
 simp only[List.cons.injEq,and_true]at e0 e1 e2
 subst e0 e1 e2
 exact⟨⟨v0,v1,v2⟩,rfl,trivial⟩
instance:Inhabited I3:=⟨⟨0,0,0⟩⟩
theorem s_Way{W:World}{fuel:Nat}{v:Value}{y:DataW H × List MemPlace}(h:DataW.trod enc Tryz.prog W 0 (fun _=>true) true fuel 30 [v]=some y):∃s:Sl I3,v=.slice s.A s.l.length s.c∧SqI3 W 0 W.heap.size s:=by
 obtain⟨s,e,h1,h2,h3,h4⟩:=open_list Tryz.underlying30 (by kernel_rfl) (by decide) I3.len c_Way h
 exact⟨s,e,h1,Nat.le_refl _,Nat.le_trans h3 h4,h2,h3,h4⟩
theorem c_Stay{W:World}(fuel:Nat)(cs:List Value)(y:DataW H × List MemPlace)(h:DataW.trod enc Tryz.prog W 0 (fun _=>true) true fuel 180 cs=some y):∃x:I3,cs=x.cells∧x.ok:=by
 obtain⟨xs,n,-,-,hl,hx,hf⟩:=DataW.trod_struct Tryz.underlying180 h
 obtain⟨c0,c1,c2,rfl⟩:=lst3 (hl.trans (by kernel_rfl))
 obtain⟨y0,y1,y2,rfl⟩:=lst3 (hx.trans rfl)
 have t0:DataW.trod enc Tryz.prog W 0 (fun _=>true) true n 2 [c0]=some y0:=by simpa[cI64] using hf 0 _ rfl
 obtain⟨v0,e0,-,-⟩:=DataW.trod_int Tryz.underlying2 t0
 have t1:DataW.trod enc Tryz.prog W 0 (fun _=>true) true n 2 [c1]=some y1:=by simpa[cI64] using hf 1 _ rfl
 obtain⟨v1,e1,-,-⟩:=DataW.trod_int Tryz.underlying2 t1
 have t2:DataW.trod enc Tryz.prog W 0 (fun _=>true) true n 2 [c2]=some y2:=by simpa[cI64] using hf 2 _ rfl
 obtain⟨v2,e2,-,-⟩:=DataW.trod_int Tryz.underlying2 t2
 simp only[List.cons.injEq,and_true]at e0 e1 e2
 subst e0 e1 e2
 exact⟨⟨v0,v1,v2⟩,rfl,trivial⟩
theorem s_Stay{W:World}{fuel:Nat}{v:Value}{y:DataW H × List MemPlace}(h:DataW.trod enc Tryz.prog W 0 (fun _=>true) true fuel 33 [v]=some y):∃s:Sl I3,v=.slice s.A s.l.length s.c∧SqI3 W 0 W.heap.size s:=by
 obtain⟨s,e,h1,h2,h3,h4⟩:=open_list Tryz.underlying33 (by kernel_rfl) (by decide) I3.len c_Stay h
 exact⟨s,e,h1,Nat.le_refl _,Nat.le_trans h3 h4,h2,h3,h4⟩
theorem c_Clause{W:World}(fuel:Nat)(cs:List Value)(y:DataW H × List MemPlace)(h:DataW.trod enc Tryz.prog W 0 (fun _=>true) true fuel 219 cs=some y):∃x:Cl,cs=x.cells∧x.ok:=by
 obtain⟨xs,n,-,-,hl,hx,hf⟩:=DataW.trod_struct Tryz.underlying219 h
 obtain⟨c0,c1,c2,c3,c4,c5,c6,c7,rfl⟩:=lst8 (hl.trans (by kernel_rfl))
 obtain⟨y0,y1,y2,y3,y4,y5,y6,y7,rfl⟩:=lst8 (hx.trans rfl)
 have t0:DataW.trod enc Tryz.prog W 0 (fun _=>true) true n 2 [c0]=some y0:=by simpa[cI64] using hf 0 _ rfl
 obtain⟨v0,e0,-,-⟩:=DataW.trod_int Tryz.underlying2 t0
 have t1:DataW.trod enc Tryz.prog W 0 (fun _=>true) true n 2 [c1]=some y1:=by simpa[cI64] using hf 1 _ rfl
 obtain⟨v1,e1,-,-⟩:=DataW.trod_int Tryz.underlying2 t1
 have t2:DataW.trod enc Tryz.prog W 0 (fun _=>true) true n 2 [c2]=some y2:=by simpa[cI64] using hf 2 _ rfl
 obtain⟨v2,e2,-,-⟩:=DataW.trod_int Tryz.underlying2 t2
 have t3:DataW.trod enc Tryz.prog W 0 (fun _=>true) true n 2 [c3]=some y3:=by simpa[cI64] using hf 3 _ rfl
 obtain⟨v3,e3,-,-⟩:=DataW.trod_int Tryz.underlying2 t3
 have t4:DataW.trod enc Tryz.prog W 0 (fun _=>true) true n 2 [c4]=some y4:=by simpa[cI64] using hf 4 _ rfl
 obtain⟨v4,e4,-,-⟩:=DataW.trod_int Tryz.underlying2 t4
 have t5:DataW.trod enc Tryz.prog W 0 (fun _=>true) true n 2 [c5]=some y5:=by simpa[cI64] using hf 5 _ rfl
 obtain⟨v5,e5,-,-⟩:=DataW.trod_int Tryz.underlying2 t5
 have t6:DataW.trod enc Tryz.prog W 0 (fun _=>true) true n 2 [c6]=some y6:=by simpa[cI64] using hf 6 _ rfl
 obtain⟨v6,e6,-,-⟩:=DataW.trod_int Tryz.underlying2 t6
 have t7:DataW.trod enc Tryz.prog W 0 (fun _=>true) true n 9 [c7]=some y7:=by simpa[cStr] using hf 7 _ rfl
 obtain⟨v7,e7,-,z7⟩:=DataW.trod_string Tryz.underlying9 t7
 simp only[List.cons.injEq,and_true]at e0 e1 e2 e3 e4 e5 e6 e7
 subst e0 e1 e2 e3 e4 e5 e6 e7
 exact⟨⟨v0,v1,v2,v3,v4,v5,v6,v7⟩,rfl,z7⟩
instance:Inhabited Cl:=⟨⟨0,0,0,0,0,0,0,ByteArray.empty⟩⟩
theorem s_Clause{W:World}{fuel:Nat}{v:Value}{y:DataW H × List MemPlace}(h:DataW.trod enc Tryz.prog W 0 (fun _=>true) true fuel 109 [v]=some y):∃s:Sl Cl,v=.slice s.A s.l.length s.c∧SqCl W 0 W.heap.size s:=by
 obtain⟨s,e,h1,h2,h3,h4⟩:=open_list Tryz.underlying109 (by kernel_rfl) (by decide) Cl.len c_Clause h
 exact⟨s,e,h1,Nat.le_refl _,Nat.le_trans h3 h4,h2,h3,h4⟩
theorem c_Witness{W:World}(fuel:Nat)(cs:List Value)(y:DataW H × List MemPlace)(h:DataW.trod enc Tryz.prog W 0 (fun _=>true) true fuel 221 cs=some y):∃x:Wi,cs=x.cells∧x.ok:=by
 obtain⟨xs,n,-,-,hl,hx,hf⟩:=DataW.trod_struct Tryz.underlying221 h
 obtain⟨c0,c1,rfl⟩:=lst2 (hl.trans (by kernel_rfl))
 obtain⟨y0,y1,rfl⟩:=lst2 (hx.trans rfl)
 have t0:DataW.trod enc Tryz.prog W 0 (fun _=>true) true n 9 [c0]=some y0:=by simpa[cStr] using hf 0 _ rfl
 obtain⟨v0,e0,-,z0⟩:=DataW.trod_string Tryz.underlying9 t0
 have t1:DataW.trod enc Tryz.prog W 0 (fun _=>true) true n 9 [c1]=some y1:=by simpa[cStr] using hf 1 _ rfl
 obtain⟨v1,e1,-,z1⟩:=DataW.trod_string Tryz.underlying9 t1
 simp only[List.cons.injEq,and_true]at e0 e1
 subst e0 e1
 exact⟨⟨v0,v1⟩,rfl,⟨z0,z1⟩⟩
instance:Inhabited Wi:=⟨⟨ByteArray.empty,ByteArray.empty⟩⟩
theorem s_Witness{W:World}{fuel:Nat}{v:Value}{y:DataW H × List MemPlace}(h:DataW.trod enc Tryz.prog W 0 (fun _=>true) true fuel 110 [v]=some y):∃s:Sl Wi,v=.slice s.A s.l.length s.c∧SqWi W 0 W.heap.size s:=by
 obtain⟨s,e,h1,h2,h3,h4⟩:=open_list Tryz.underlying110 (by kernel_rfl) (by decide) Wi.len c_Witness h
 exact⟨s,e,h1,Nat.le_refl _,Nat.le_trans h3 h4,h2,h3,h4⟩
theorem s_String{W:World}{fuel:Nat}{v:Value}{y:DataW H × List MemPlace}(h:DataW.trod enc Tryz.prog W 0 (fun _=>true) true fuel 29 [v]=some y):∃s:Sl ByteArray,v=.slice s.A s.l.length s.c∧SqSt W 0 W.heap.size s:=by
 obtain⟨A,n,c,rfl,h1,h2,l,rfl,h3,h4⟩:=open_strs_cells h
 exact⟨⟨A,c,l⟩,rfl,h3,Nat.le_refl _,Nat.le_trans h1 h2,h4,h1,h2⟩
theorem c_Deed{W:World}(fuel:Nat)(cs:List Value)(y:DataW H × List MemPlace)(h:DataW.trod enc Tryz.prog W 0 (fun _=>true) true fuel 112 cs=some y):∃x:Dd,cs=x.cells∧RawE W 0 W.heap.size x:=by
 obtain⟨xs,n,-,-,hl,hx,hf⟩:=DataW.trod_struct Tryz.underlying112 h
 obtain⟨c0,c1,c2,c3,c4,c5,c6,rfl⟩:=lst7 (hl.trans (by kernel_rfl))
 obtain⟨y0,y1,y2,y3,y4,y5,y6,rfl⟩:=lst7 (hx.trans rfl)
 have t0:DataW.trod enc Tryz.prog W 0 (fun _=>true) true n 9 [c0]=some y0:=by simpa[cStr] using hf 0 _ rfl
 obtain⟨v0,e0,-,z0⟩:=DataW.trod_string Tryz.underlying9 t0
 have t1:DataW.trod enc Tryz.prog W 0 (fun _=>true) true n 109 [c1]=some y1:=by simpa[cS_Clause] using hf 1 _ rfl
 obtain⟨v1,rfl,z1⟩:=s_Clause t1
 have t2:DataW.trod enc Tryz.prog W 0 (fun _=>true) true n 110 [c2]=some y2:=by simpa[cS_Witness] using hf 2 _ rfl
 obtain⟨v2,rfl,z2⟩:=s_Witness t2
 have t3:DataW.trod enc Tryz.prog W 0 (fun _=>true) true n 9 [c3]=some y3:=by simpa[cStr] using hf 3 _ rfl
 obtain⟨v3,e3,-,z3⟩:=DataW.trod_string Tryz.underlying9 t3
 have t4:DataW.trod enc Tryz.prog W 0 (fun _=>true) true n 9 [c4]=some y4:=by simpa[cStr] using hf 4 _ rfl
 obtain⟨v4,e4,-,z4⟩:=DataW.trod_string Tryz.underlying9 t4
 have t5:DataW.trod enc Tryz.prog W 0 (fun _=>true) true n 9 [c5]=some y5:=by simpa[cStr] using hf 5 _ rfl
 obtain⟨v5,e5,-,z5⟩:=DataW.trod_string Tryz.underlying9 t5
 have t6:DataW.trod enc Tryz.prog W 0 (fun _=>true) true n 29 [c6]=some y6:=by simpa[cS_String] using hf 6 _ rfl
 obtain⟨v6,rfl,z6⟩:=s_String t6
 simp only[List.cons.injEq,and_true]at e0 e3 e4 e5
 subst e0 e3 e4 e5
 exact⟨⟨v0,v1,v2,v3,v4,v5,v6⟩,rfl,z0,z1,z2,z3,z4,z5,z6⟩
instance:Inhabited Dd:=⟨⟨ByteArray.empty,⟨none,0,[]⟩,⟨none,0,[]⟩,ByteArray.empty,ByteArray.empty,ByteArray.empty,⟨none,0,[]⟩⟩⟩
theorem s_Deed{W:World}{fuel:Nat}{v:Value}{y:DataW H × List MemPlace}(h:DataW.trod enc Tryz.prog W 0 (fun _=>true) true fuel 37 [v]=some y):∃s:Sl Dd,v=.slice s.A s.l.length s.c∧RawDd W 0 W.heap.size s:=by
 obtain⟨s,e,h1,h2,h3,h4⟩:=open_list Tryz.underlying37 (by kernel_rfl) (by decide) Dd.len c_Deed h
 exact⟨s,e,h1,Nat.le_refl _,Nat.le_trans h3 h4,h2,h3,h4⟩
theorem c_Formula{W:World}(fuel:Nat)(cs:List Value)(y:DataW H × List MemPlace)(h:DataW.trod enc Tryz.prog W 0 (fun _=>true) true fuel 115 cs=some y):∃x:Fm,cs=x.cells∧(x.ok∧RdT W 0 W.heap.size x.A x.ws):=by
 obtain⟨xs,n,-,-,hl,hx,hf⟩:=DataW.trod_struct Tryz.underlying115 h
 obtain⟨c0,c1,c2,rfl⟩:=lst3 (hl.trans (by kernel_rfl))
 obtain⟨y0,y1,y2,rfl⟩:=lst3 (hx.trans rfl)
 have t0:DataW.trod enc Tryz.prog W 0 (fun _=>true) true n 29 [c0]=some y0:=by simpa[cS_String] using hf 0 _ rfl
 have t1:DataW.trod enc Tryz.prog W 0 (fun _=>true) true n 2 [c1]=some y1:=by simpa[cI64] using hf 1 _ rfl
 have t2:DataW.trod enc Tryz.prog W 0 (fun _=>true) true n 2 [c2]=some y2:=by simpa[cI64] using hf 2 _ rfl
 obtain⟨s,rfl,z0⟩:=s_String t0
 obtain⟨v1,e1,-,-⟩:=DataW.trod_int Tryz.underlying2 t1
 obtain⟨v2,e2,-,-⟩:=DataW.trod_int Tryz.underlying2 t2
 simp only[List.cons.injEq,and_true]at e1 e2
 subst e1 e2
 exact⟨⟨s.A,s.c,s.l,v1,v2⟩,rfl,⟨z0.ok,z0.cap⟩,z0.rd⟩
instance:Inhabited Fm:=⟨⟨none,0,[],0,0⟩⟩
theorem s_Formula{W:World}{fuel:Nat}{v:Value}{y:DataW H × List MemPlace}(h:DataW.trod enc Tryz.prog W 0 (fun _=>true) true fuel 38 [v]=some y):∃s:Sl Fm,v=.slice s.A s.l.length s.c∧RawF W 0 W.heap.size s:=by
 obtain⟨s,e,h1,h2,h3,h4⟩:=open_list Tryz.underlying38 (by kernel_rfl) (by decide) fm_len c_Formula h
 exact⟨s,e,⟨h1,fun x hx=>(h2 x hx).2⟩,Nat.le_refl _,Nat.le_trans h3 h4,fun x hx=>(h2 x hx).1,h3,h4⟩
theorem c_Phrase{W:World}(fuel:Nat)(cs:List Value)(y:DataW H × List MemPlace)(h:DataW.trod enc Tryz.prog W 0 (fun _=>true) true fuel 29 cs=some y):∃x:Sl ByteArray,cs=phC x∧SqSt W 0 W.heap.size x:=by
 obtain⟨A,l,c,rfl⟩:=Go.Joins.slice_form Tryz.underlying29 h
 obtain⟨s,e,h1⟩:=s_String h
 exact⟨s,by rw[e],h1⟩
instance:Inhabited (Sl ByteArray):=⟨⟨none,0,[]⟩⟩
theorem s_Phrases{W:World}{fuel:Nat}{v:Value}{y:DataW H × List MemPlace}(h:DataW.trod enc Tryz.prog W 0 (fun _=>true) true fuel 39 [v]=some y):∃s:Sl (Sl ByteArray),v=.slice s.A s.l.length s.c∧RawPh W 0 W.heap.size s:=by
 obtain⟨s,e,h1,h2,h3,h4⟩:=open_list Tryz.underlying39 cS_String (by decide) phC_len c_Phrase h
 exact⟨s,e,h1,Nat.le_refl _,Nat.le_trans h3 h4,h2,h3,h4⟩
theorem cS_Phrases:Tryz.prog.cellsOf 39=1:=by kernel_rfl
theorem cC_Chancery:Tryz.prog.cellsOf 24=3:=by kernel_rfl
theorem c_Chancery{W:World}(fuel:Nat)(cs:List Value)(y:DataW H × List MemPlace)(h:DataW.trod enc Tryz.prog W 0 (fun _=>true) true fuel 24 cs=some y):∃(s:Sl Nm) (fr to_:Int),cs=[.slice s.A s.l.length s.c,.int .i64 fr,.int .i64 to_]∧SqNm W 0 W.heap.size s:=by
 obtain⟨xs,n,-,-,hl,hx,hf⟩:=DataW.trod_struct Tryz.underlying24 h
 obtain⟨c0,c1,c2,rfl⟩:=lst3 (hl.trans (by kernel_rfl))
 obtain⟨y0,y1,y2,rfl⟩:=lst3 (hx.trans rfl)
 have t0:DataW.trod enc Tryz.prog W 0 (fun _=>true) true n 22 [c0]=some y0:=by simpa[cS_Reign] using hf 0 _ rfl
 obtain⟨s,rfl,z0⟩:=s_Reign t0
 have t1:DataW.trod enc Tryz.prog W 0 (fun _=>true) true n 2 [c1]=some y1:=by simpa[cI64] using hf 1 _ rfl
 obtain⟨v1,e1,-,-⟩:=DataW.trod_int Tryz.underlying2 t1
 have t2:DataW.trod enc Tryz.prog W 0 (fun _=>true) true n 2 [c2]=some y2:=by simpa[cI64] using hf 2 _ rfl
 obtain⟨v2,e2,-,-⟩:=DataW.trod_int Tryz.underlying2 t2
 simp only[List.cons.injEq,and_true]at e1 e2
 subst e1 e2
 exact⟨s,v1,v2,rfl,z0⟩
theorem cC_People:Tryz.prog.cellsOf 28=2:=by kernel_rfl
theorem c_People{W:World}(fuel:Nat)(cs:List Value)(y:DataW H × List MemPlace)(h:DataW.trod enc Tryz.prog W 0 (fun _=>true) true fuel 28 cs=some y):∃(s:Sl Nm) (t:Sl Tm),cs=[.slice s.A s.l.length s.c,.slice t.A t.l.length t.c]∧SqNm W 0 W.heap.size s∧SqTm W 0 W.heap.size t:=by
 obtain⟨xs,n,-,-,hl,hx,hf⟩:=DataW.trod_struct Tryz.underlying28 h
 obtain⟨c0,c1,rfl⟩:=lst2 (hl.trans (by kernel_rfl))
 obtain⟨y0,y1,rfl⟩:=lst2 (hx.trans rfl)
 have t0:DataW.trod enc Tryz.prog W 0 (fun _=>true) true n 25 [c0]=some y0:=by simpa[cS_Person] using hf 0 _ rfl
 obtain⟨s,rfl,z0⟩:=s_Person t0
 have t1:DataW.trod enc Tryz.prog W 0 (fun _=>true) true n 26 [c1]=some y1:=by simpa[cS_Term] using hf 1 _ rfl
 obtain⟨t,rfl,z1⟩:=s_Term t1
 exact⟨s,t,rfl,z0,z1⟩
theorem cC_Land:Tryz.prog.cellsOf 32=2:=by kernel_rfl
theorem c_Land{W:World}(fuel:Nat)(cs:List Value)(y:DataW H × List MemPlace)(h:DataW.trod enc Tryz.prog W 0 (fun _=>true) true fuel 32 cs=some y):∃(s:Sl ByteArray) (t:Sl I3),cs=[.slice s.A s.l.length s.c,.slice t.A t.l.length t.c]∧SqSt W 0 W.heap.size s∧SqI3 W 0 W.heap.size t:=by
 obtain⟨xs,n,-,-,hl,hx,hf⟩:=DataW.trod_struct Tryz.underlying32 h
 obtain⟨c0,c1,rfl⟩:=lst2 (hl.trans (by kernel_rfl))
 obtain⟨y0,y1,rfl⟩:=lst2 (hx.trans rfl)
 have t0:DataW.trod enc Tryz.prog W 0 (fun _=>true) true n 29 [c0]=some y0:=by simpa[cS_String] using hf 0 _ rfl
 obtain⟨s,rfl,z0⟩:=s_String t0
 have t1:DataW.trod enc Tryz.prog W 0 (fun _=>true) true n 30 [c1]=some y1:=by simpa[cS_Way] using hf 1 _ rfl
 obtain⟨t,rfl,z1⟩:=s_Way t1
 exact⟨s,t,rfl,z0,z1⟩
theorem cC_World:Tryz.prog.cellsOf 36=10:=by kernel_rfl
theorem c_World{W:World}(fuel:Nat)(cs:List Value)(y:DataW H × List MemPlace)(h:DataW.trod enc Tryz.prog W 0 (fun _=>true) true fuel 36 cs=some y):∃x:Wd,cs=x.arr.toList∧RawW W 0 W.heap.size x:=by
 obtain⟨xs,n,-,-,hl,hx,hf⟩:=DataW.trod_struct Tryz.underlying36 h
 obtain⟨c0,c1,c2,c3,c4,c5,c6,c7,c8,c9,rfl⟩:=lst10 (hl.trans (by kernel_rfl))
 obtain⟨y0,y1,y2,y3,y4,y5,rfl⟩:=lst6 (hx.trans rfl)
 have t0:DataW.trod enc Tryz.prog W 0 (fun _=>true) true n 24 [c0,c1,c2]=some y0:=by simpa[cC_Chancery] using hf 0 _ rfl
 obtain⟨rs,fr,to_,E0,z0⟩:=c_Chancery _ _ _ t0
 have t1:DataW.trod enc Tryz.prog W 0 (fun _=>true) true n 28 [c3,c4]=some y1:=by simpa[cC_People] using hf 1 _ rfl
 obtain⟨ps,ts,E1,z1,z2⟩:=c_People _ _ _ t1
 have t2:DataW.trod enc Tryz.prog W 0 (fun _=>true) true n 32 [c5,c6]=some y2:=by simpa[cC_Land] using hf 2 _ rfl
 obtain⟨pl,ws,E2,z3,z4⟩:=c_Land _ _ _ t2
 have t3:DataW.trod enc Tryz.prog W 0 (fun _=>true) true n 33 [c7]=some y3:=by simpa[cS_Stay] using hf 3 _ rfl
 obtain⟨st,rfl,z5⟩:=s_Stay t3
 have t4:DataW.trod enc Tryz.prog W 0 (fun _=>true) true n 34 [c8]=some y4:=by simpa[cS_Mark] using hf 4 _ rfl
 obtain⟨se,rfl,z6⟩:=s_Mark t4
 have t5:DataW.trod enc Tryz.prog W 0 (fun _=>true) true n 34 [c9]=some y5:=by simpa[cS_Mark] using hf 5 _ rfl
 obtain⟨ha,rfl,z7⟩:=s_Mark t5
 simp only[List.cons.injEq,and_true]at E0 E1 E2
 obtain⟨rfl,rfl,rfl⟩:=E0
 obtain⟨rfl,rfl⟩:=E1
 obtain⟨rfl,rfl⟩:=E2
 exact⟨⟨rs,fr,to_,ps,ts,pl,ws,st,se,ha⟩,rfl,z0,z1,z2,z3,z4,z5,z6,z7⟩
theorem c_Evidence{W:World}(fuel:Nat)(cs:List Value)(y:DataW H × List MemPlace)(h:DataW.trod enc Tryz.prog W 0 (fun _=>true) true fuel 41 cs=some y):∃(x:Wd) (s:Sl Dd) (g:Sl Fm) (q:Sl (Sl ByteArray)),cs=[.slice x.rs.A x.rs.l.length x.rs.c,.int .i64 x.fr,.int .i64 x.to_,.slice x.ps.A x.ps.l.length x.ps.c,.slice x.ts.A x.ts.l.length x.ts.c,.slice x.pl.A x.pl.l.length x.pl.c,.slice x.ws.A x.ws.l.length x.ws.c,.slice x.st.A x.st.l.length x.st.c,.slice x.se.A x.se.l.length x.se.c,.slice x.ha.A x.ha.l.length x.ha.c,.slice s.A s.l.length s.c,.slice g.A g.l.length g.c,.slice q.A q.l.length q.c]∧RawW W 0 W.heap.size x∧RawDd W 0 W.heap.size s∧RawF W 0 W.heap.size g∧RawPh W 0 W.heap.size q:=by
 obtain⟨xs,n,-,-,hl,hx,hf⟩:=DataW.trod_struct Tryz.underlying41 h
 obtain⟨c0,c1,c2,c3,c4,c5,c6,c7,c8,c9,c10,c11,c12,rfl⟩:=lst13 (hl.trans (by kernel_rfl))
 obtain⟨y0,y1,y2,y3,rfl⟩:=lst4 (hx.trans rfl)
 have t0:DataW.trod enc Tryz.prog W 0 (fun _=>true) true n 36 [c0,c1,c2,c3,c4,c5,c6,c7,c8,c9]=some y0:=by simpa[cC_World] using hf 0 _ rfl
 obtain⟨x,E0,z0⟩:=c_World _ _ _ t0
 have t1:DataW.trod enc Tryz.prog W 0 (fun _=>true) true n 37 [c10]=some y1:=by simpa[cS_Deed] using hf 1 _ rfl
 obtain⟨s,rfl,z1⟩:=s_Deed t1
 have t2:DataW.trod enc Tryz.prog W 0 (fun _=>true) true n 38 [c11]=some y2:=by simpa[cS_Formula] using hf 2 _ rfl
 obtain⟨g,rfl,z2⟩:=s_Formula t2
 have t3:DataW.trod enc Tryz.prog W 0 (fun _=>true) true n 39 [c12]=some y3:=by simpa[cS_Phrases] using hf 3 _ rfl
 obtain⟨q,rfl,z3⟩:=s_Phrases t3
 simp only[List.cons.injEq,and_true]at E0
 obtain⟨rfl,rfl,rfl,rfl,rfl,rfl,rfl,rfl,rfl,rfl⟩:=E0
 exact⟨x,s,g,q,rfl,z0,z1,z2,z3⟩
theorem open_Evidence{W:World}{r:Reach}{b0:Nat}{v:Value}{d:DataW H}{p:List MemPlace}(hv:Value.okWide Tryz.prog W r b0 41 v)(h:DataW.Trod enc Tryz.prog W 0 (fun _=>true) true 41 v d p) :
 ∃(x:Wd) (s:Sl Dd) (g:Sl Fm) (q:Sl (Sl ByteArray)),v=.agg #[.slice x.rs.A x.rs.l.length x.rs.c,.int .i64 x.fr,.int .i64 x.to_,.slice x.ps.A x.ps.l.length x.ps.c,.slice x.ts.A x.ts.l.length x.ts.c,.slice x.pl.A x.pl.l.length x.pl.c,.slice x.ws.A x.ws.l.length x.ws.c,.slice x.st.A x.st.l.length x.st.c,.slice x.se.A x.se.l.length x.se.c,.slice x.ha.A x.ha.l.length x.ha.c,.slice s.A s.l.length s.c,.slice g.A g.l.length g.c,.slice q.A q.l.length q.c]∧RawW W 0 W.heap.size x∧RawDd W 0 W.heap.size s∧RawF W 0 W.heap.size g∧RawPh W 0 W.heap.size q:=by
 obtain⟨cs,rfl,hsz⟩:=okWide_struct Tryz.underlying41 hv
 obtain⟨fuel,hf⟩:=h
 obtain⟨x,s,g,q,e,z⟩:=c_Evidence fuel cs.toList _ (by simpa[Value.cells] using hf)
 refine⟨x,s,g,q,?_,z⟩
 rw[← e]
end
end Go.Proofs.YtihcmhmanfobcaaGreatDoor
