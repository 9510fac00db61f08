/- strings.Replacer's table, built over the four letters. -/
import Derived.Test.YtaoplcclemckjaaGreatDoorRepl
import Derived.Laws.CopyOwn
import Derived.Lib.ConvBytes
import Derived.Laws.Cover3
set_option maxHeartbeats 4000000
set_option maxRecDepth 100000
namespace Go.Proofs.YtaoplcclemckjaaGreatDoor
open Go.RowKit
structure W8 (w:World) (B:Nat):Prop where
 c0:w.cell? ⟨B,0,none⟩=some (.string ⟨#[118]⟩)
 c1:w.cell? ⟨B,1,none⟩=some (.string ⟨#[117]⟩)
 c2:w.cell? ⟨B,2,none⟩=some (.string ⟨#[106]⟩)
 c3:w.cell? ⟨B,3,none⟩=some (.string ⟨#[105]⟩)
 c4:w.cell? ⟨B,4,none⟩=some (.string ⟨#[121]⟩)
 c5:w.cell? ⟨B,5,none⟩=some (.string ⟨#[105]⟩)
 c6:w.cell? ⟨B,6,none⟩=some (.string ⟨#[119]⟩)
 c7:w.cell? ⟨B,7,none⟩=some (.string ⟨#[117,117]⟩)
theorem W8.up{w w':World}{B:Nat}(h:W8 w B)(hu:Up w w'):W8 w' B :=
 ⟨hu.cell h.c0,hu.cell h.c1,hu.cell h.c2,hu.cell h.c3,hu.cell h.c4,hu.cell h.c5,hu.cell h.c6,hu.cell h.c7⟩
theorem cell_two_new(w:World)(o:Obj)(u:Value)(e:TypeId):∀j v,[u][j]?=some v→((w.alloc o).alloc (.cells #[u] e)).cell? (Addr.add ⟨w.heap.size+1,0,none⟩ j)=some v:=by
 intro j v hv
 match j,hv with
 | 0,hv=>simp at hv;subst hv;simp[Addr.add]
theorem run_eqNil(a:Option Addr)(n c:Nat)(wx:World):(binOp .eql 183 (.slice a n c) (.slice none 0 0)).run Tryz.prog wx=.ok (.bool a.isNone) wx:=by
 have h:=run_equal_slice_nil (P:=Tryz.prog) (w:=wx) 183 5 a n c Tryz.underlying183
 simp[binOp,h,Result.andThen]
theorem run_neNil(a:Option Addr)(n c:Nat)(wx:World):(binOp .neq 183 (.slice a n c) (.slice none 0 0)).run Tryz.prog wx=.ok (.bool !a.isNone) wx:=by
 have h:=run_equal_slice_nil (P:=Tryz.prog) (w:=wx) 183 5 a n c Tryz.underlying183
 simp[binOp,h,Result.andThen]
def zT(v:Value):Nat→Value:=fun i=>if i=256 then v else .slice none 0 0
def nilB(v:Value):Bool:=match v with
 | .slice none 0 0=>true
 | _=>false
theorem nilB_eq{v:Value}(h:nilB v=true):v=.slice none 0 0:=by
 unfold nilB at h
 split at h
 ·rfl
 ·cases h
theorem zeroT_all:((Tryz.zeroCells402.toList.take 256).all nilB)=true:=by kernel_rfl
theorem zeroT_at{i:Nat}(hi:i<256):Tryz.zeroCells402.toList[i]?=some (.slice none 0 0):=by
 have hs:Tryz.zeroCells402.size=257:=Tryz.zeroCells402_size
 have hl:i<Tryz.zeroCells402.toList.length:=by rw[Array.length_toList,hs];omega
 have h:=List.all_eq_true.1 zeroT_all (Tryz.zeroCells402.toList[i]) (by
  refine List.mem_of_getElem? (i:=i) ?_
  rw[List.getElem?_take,if_pos hi,List.getElem?_eq_getElem hl])
 rw[List.getElem?_eq_getElem hl,nilB_eq h]
theorem zeroT_one(v:Value)(hv:v.oneCell'=true):∀u∈Tryz.zeroCells402.toList.set 256 v,u.oneCell'=true:=by
 intro u hu
 obtain⟨i,hi⟩:=List.mem_iff_getElem?.1 hu
 rw[List.getElem?_set]at hi;split at hi
 ·split at hi
  ·cases hi;exact hv
  ·cases hi
 ·have hs:Tryz.zeroCells402.size=257:=Tryz.zeroCells402_size
  have hl:=(List.getElem?_eq_some_iff.1 hi).1
  rw[Array.length_toList,hs]at hl;rw[zeroT_at (by omega)]at hi
  cases hi;rfl
theorem run_storeTab(wx:World)(h:Nat)(v:Value)(hv:v.oneCell'=true)(hg:wx.heap[h]?=some (.cells Tryz.zeroCells402 402 (0,0))) :
 (storeCells ⟨h,0,none⟩ (Tryz.zeroCells402.toList.set 256 v)).run Tryz.prog wx=.ok () (wx.setRow h (Tryz.zeroCells402.toList.set 256 v).toArray):=by
 have:=run_storeCells_from (P:=Tryz.prog) h 402 (Tryz.zeroCells402.toList.set 256 v) 0 _ wx hg (by simp) (zeroT_one v hv)
 simpa using this
theorem row_zT(wx:World)(h:Nat)(v:Value)(hg:wx.heap[h]?=some (.cells Tryz.zeroCells402 402 (0,0))) :
 (wx.setRow h (Tryz.zeroCells402.toList.set 256 v).toArray).rowIs h 402 257 (zT v):=by
 have hs:Tryz.zeroCells402.size=257:=Tryz.zeroCells402_size
 refine⟨_,setRow_heap wx h _ _ _ _ hg,by simp[hs],fun i hi=>?_⟩
 rw[List.getElem?_toArray,List.getElem?_set,Array.length_toList,hs];unfold zT
 by_cases e:i=256
 ·subst e;rw[if_pos rfl,if_pos (by omega),if_pos rfl]
 ·rw[if_neg (fun h=>e h.symm),if_neg e,zeroT_at (by omega)]
def keyV:List (Nat × List UInt8):=[(118,[117]),(106,[105]),(121,[105]),(119,[117,117])]
def rplM(m b:Nat):Option (List UInt8):=(keyV.drop m).lookup b
def Ybl(w:World)(q:Nat)(r:List UInt8):Prop:=∃(cs:Array Value) (fr:Nat × Nat),w.heap[q]?=some (.cells cs 5 fr)∧∀(j:Nat) (x:UInt8),r[j]?=some x→cs[j]?=some (.int .u8 (x.toNat:Int))
theorem Ybl.keep{w w':World}{q:Nat}{r:List UInt8}(h:Ybl w q r)(e:w'.heap[q]?=w.heap[q]?):Ybl w' q r:=by
 obtain⟨cs,fr,h1,h2⟩:=h
 exact⟨cs,fr,e.trans h1,h2⟩
theorem Ybl.lt{w:World}{q:Nat}{r:List UInt8}(h:Ybl w q r):q<w.heap.size:=by
 obtain⟨cs,fr,h1,h2⟩:=h
 exact(Array.getElem?_eq_some_iff.1 h1).1
def TB(w:World)(base:Nat)(f:Nat→Value)(m:Nat):Prop :=
 ∀b,b<256→(rplM m b=none→f b=.slice none 0 0)∧∀r,rplM m b=some r→∃q c,f b=.slice (some ⟨q,0,none⟩) r.length c∧base≤q∧Ybl w q r
theorem TB.keep{w w':World}{base:Nat}{f:Nat→Value}{m:Nat}(h:TB w base f m)(hk:∀q,base≤q→q<w.heap.size→(∃cs fr,w.heap[q]?=some (.cells cs 5 fr))→w'.heap[q]?=w.heap[q]?):TB w' base f m:=fun b hb =>
 ⟨(h b hb).1,fun r hr=>by
   obtain⟨q,c,h1,h2,h3⟩:=(h b hb).2 r hr
   have h3':=h3
   obtain⟨cs,fr,h4,-⟩:=h3
   exact⟨q,c,h1,h2,h3'.keep (hk q h2 h3'.lt ⟨cs,fr,h4⟩)⟩⟩
theorem TB.set{w:World}{base:Nat}{f f':Nat→Value}{m k:Nat}{r:List UInt8}{q c:Nat}(h:TB w base f (m+1))(hk:keyV[m]?=some (k,r))(hq:f' k=.slice (some ⟨q,0,none⟩) r.length c)(hb:base≤q)(hy:Ybl w q r)(ho:∀j,j<256→j≠k→f' j=f j):TB w base f' m:=by
 intro b hb2
 have hd:keyV.drop m=(k,r) :: keyV.drop (m+1):=by
  have hlt:=(List.getElem?_eq_some_iff.1 hk).1
  rw[List.drop_eq_getElem_cons hlt,(List.getElem?_eq_some_iff.1 hk).2]
 unfold rplM
 rw[hd,List.lookup_cons];by_cases e:b=k
 ·subst e
  simp only[beq_self_eq_true]
  exact⟨(fun h=>by cases h),(fun r' hr'=>by cases hr';exact⟨q,c,hq,hb,hy⟩)⟩
 ·have:(b==k)=false:=by simpa using e
  simp only[this]
  rw[ho b hb2 e];exact h b hb2
def Tab(w:World)(base h:Nat):Prop:=∃f,w.rowIs h 402 257 f∧TB w base f 0∧∃A cc,f 256=.slice A 4 cc
theorem own_block_type{w:World}{base n:Nat}{e:TypeId}{v:Value}{xs:List Value}(h:w.ownsRow base e 1 v n xs){q:Nat}(hq:v.ownBlock=some q):∃cur fr,w.heap[q]?=some (.cells cur e fr):=by
 rcases h.2 with⟨rfl,-⟩|⟨g,cap,cur,rfl,-,hh,-⟩
 ·cases hq
 ·simp[Value.ownBlock]at hq;subst hq;exact⟨cur,_,hh⟩
theorem own_keep{w w':World}{base n:Nat}{e:TypeId}{v:Value}{xs:List Value}(h:w.ownsRow base e 1 v n xs)(hk:∀q,v.ownBlock=some q→w'.heap[q]?=w.heap[q]?):w'.ownsRow base e 1 v n xs:=by
 refine⟨h.1,?_⟩
 rcases h.2 with h2|⟨g,cap,cur,hv,hg,hh,r⟩
 ·exact .inl h2
 ·subst hv;exact .inr ⟨g,cap,cur,rfl,hg,(hk g rfl).trans hh,r⟩
theorem run_bytesOf(s:ByteArray)(wx:World):(convert 9 183 (.string s)).run Tryz.prog wx=.ok (.slice (some ⟨wx.heap.size,0,none⟩) s.size (grownCap wx s.size 0 5)) (Lib.bytesWorld wx 5 s) :=
 Lib.run_convert_string_bytes wx 9 183 5 s Tryz.underlying9 Tryz.underlying183 Tryz.underlying5
theorem up_bytesWorld(w:World)(e:TypeId)(s:ByteArray):Up w (Lib.bytesWorld w e s) :=
 ⟨by unfold Lib.bytesWorld World.freeze;split<;>rfl,by unfold Lib.bytesWorld World.freeze;split<;>rfl,by unfold Lib.bytesWorld World.freeze;split<;>rfl,by rw[Lib.bytesWorld_size];omega,fun k hk=>Lib.bytesWorld_at_old w e s k hk⟩
theorem ybl_bytesWorld(w:World)(l:List UInt8):Ybl (Lib.bytesWorld w 5 ⟨l.toArray⟩) w.heap.size l:=by
 refine⟨_,_,Lib.bytesWorld_at_new w _ _,fun j x hx=>?_⟩
 have hj:=(List.getElem?_eq_some_iff.1 hx).1
 unfold Lib.bytesCells
 rw[Array.getElem?_append_left (by simpa using hj)]
 simp[hx]
theorem W8.set{w:World}{B h i:Nat}{v:Value}(h8:W8 w B)(hne:B≠h):W8 (w.setCell ⟨h,i,none⟩ v) B:=by
 have hx:∀j,(⟨h,i,none⟩:Addr)≠⟨B,j,none⟩:=fun j e=>hne (by cases e;rfl)
 exact⟨(World.cell?_setCell_other _ _ _ _ (hx _)).trans h8.c0,(World.cell?_setCell_other _ _ _ _ (hx _)).trans h8.c1,(World.cell?_setCell_other _ _ _ _ (hx _)).trans h8.c2,(World.cell?_setCell_other _ _ _ _ (hx _)).trans h8.c3,(World.cell?_setCell_other _ _ _ _ (hx _)).trans h8.c4,(World.cell?_setCell_other _ _ _ _ (hx _)).trans h8.c5,(World.cell?_setCell_other _ _ _ _ (hx _)).trans h8.c6,(World.cell?_setCell_other _ _ _ _ (hx _)).trans h8.c7⟩
theorem table_step{w4 wa:World}{base h m C2 cc2 n kb cap:Nat}{f:Nat→Value}{r:List UInt8}{v5:Value}{xs:List Value}(hbase:base≤w4.heap.size)(hrow4:w4.rowIs h 402 257 f)(hT4:TB w4 base f (m+1))
 (hown4:w4.ownsRow base 9 1 (.slice (some ⟨C2,0,none⟩) n cc2) n xs) (hk:keyV[m]?=some (kb,r)) (hkb:kb<256) (hup:Up wa w4) (hwa:wa.heap.size≤h) :
 ∃f',((Lib.bytesWorld (w4.setCell ⟨h,256,none⟩ v5) 5 ⟨r.toArray⟩).setCell ⟨h,kb,none⟩ (.slice (some ⟨w4.heap.size,0,none⟩) r.length cap)).rowIs h 402 257 f' ∧
  TB ((Lib.bytesWorld (w4.setCell ⟨h,256,none⟩ v5) 5 ⟨r.toArray⟩).setCell ⟨h,kb,none⟩ (.slice (some ⟨w4.heap.size,0,none⟩) r.length cap)) base f' m∧f' 256=v5 ∧
  ((Lib.bytesWorld (w4.setCell ⟨h,256,none⟩ v5) 5 ⟨r.toArray⟩).setCell ⟨h,kb,none⟩ (.slice (some ⟨w4.heap.size,0,none⟩) r.length cap)).ownsRow base 9 1 (.slice (some ⟨C2,0,none⟩) n cc2) n xs ∧
  Up wa ((Lib.bytesWorld (w4.setCell ⟨h,256,none⟩ v5) 5 ⟨r.toArray⟩).setCell ⟨h,kb,none⟩ (.slice (some ⟨w4.heap.size,0,none⟩) r.length cap)):=by
 have hs5:(w4.setCell ⟨h,256,none⟩ v5).heap.size=w4.heap.size:=by simp
 have hne:∀q e cs fr,w4.heap[q]?=some (Obj.cells cs e fr)→e≠402→q≠h:=by
  intro q e cs fr h1 h2 h3
  obtain⟨c,h4,-⟩:=hrow4
  subst h3;rw[h1]at h4;cases h4;exact h2 rfl
 have hb:∀q,q≠h→q<w4.heap.size→((Lib.bytesWorld (w4.setCell ⟨h,256,none⟩ v5) 5 ⟨r.toArray⟩).setCell ⟨h,kb,none⟩ (.slice (some ⟨w4.heap.size,0,none⟩) r.length cap)).heap[q]?=w4.heap[q]?:=by
  intro q h1 h2
  rw[Below.heap_setCell _ _ _ _ h1,Lib.bytesWorld_at_old _ _ _ _ (by rw[hs5];exact h2),Below.heap_setCell _ _ _ _ h1]
 have hrow5:=World.rowIs.set hrow4 256 v5
 have hrow6:=hrow5.of_block (Lib.bytesWorld_at_old _ 5 ⟨r.toArray⟩ h hrow5.lt)
 have hrow7:=World.rowIs.set hrow6 kb (.slice (some ⟨w4.heap.size,0,none⟩) r.length cap)
 have hlt:=hrow4.lt
 refine⟨_,hrow7,TB.set (hT4.keep fun q _ hq ⟨cs,fr,e⟩=>hb q (hne q _ cs fr e (by decide)) hq) hk (if_pos rfl) hbase ?_ (fun j hj hjk=>?_),?_,?_,?_⟩
 ·refine(ybl_bytesWorld (w4.setCell ⟨h,256,none⟩ v5) r).keep ?_ |> fun y=>by rwa [hs5]at y
  rw[hs5];exact Below.heap_setCell _ _ _ _ (by simp;omega)
 ·show(if j=kb then _ else if j=256 then _ else f j)=f j
  rw[if_neg hjk,if_neg (by omega)]
 ·show(if 256=kb then _ else if 256=256 then _ else f 256)=v5
  rw[if_neg (by omega),if_pos rfl]
 ·refine own_keep hown4 fun q hq=>?_
  obtain⟨cur,fr,e⟩:=own_block_type hown4 hq
  exact hb q (hne q _ cur fr e (by decide)) (Array.getElem?_eq_some_iff.1 e).1
 ·exact((hup.setCell (p:=⟨h,256,none⟩) hwa v5).trans (up_bytesWorld _ _ _)).setCell (p:=⟨h,kb,none⟩) hwa _
theorem build_any(g B cc:Nat)(a b c d:Value)(w:World)(hr:Rp w g a b c d (.slice (some ⟨B,0,none⟩) 8 cc))(h8:W8 w B) :
 Calls Tryz.prog 348 #[.pointer (some ⟨g,0,none⟩)] w fun e w'=>∃h,e=.returned (.iface 403 (.pointer (some ⟨h,0,none⟩)))∧w.heap.size≤h∧Tab w' w.heap.size h∧Up w w':=by
 have h4:=hr.c4
 have H8:=qh h8
 have hBw:B<w.heap.size:=block_lt_of_cell h8.c0
 obtain⟨c0,c1,c2,c3,c4,c5,c6,c7⟩:=h8
 obtain⟨i0,hi0,hz0,hz1,hz2⟩:=info_parts infoString
 have hmk:∀wx:World,(Instr.makeSlice 29 (.int .i64 0) (.int .i64 4)).run Tryz.prog wx=.ok (.slice (some ⟨wx.heap.size,0,none⟩) 0 4) (wx.alloc (.cells (madeCells #[.string ByteArray.empty] 4) 9)):=fun wx=>by
  have:=run_make (P:=Tryz.prog) wx 29 9 i0 _ Tryz.underlying29 hi0 hz0 .i64 .i64 0 4 (by omega) (by omega) (by rw[hz2];omega) (by omega)
  rw[hz1]at this;exact this
 go_enter Tryz.func348,Tryz.ntmps348
 go_wp2;go_loop [4,5] (fun z i=>∃m:Nat,m≤4∧i=.int .i64 ((2*m:Nat):Int)∧z=.bool (decide (m<4))) (fun _ i=>8-(intOf i).toNat)
 case atStart=>exact⟨0,by omega,rfl,rfl⟩
 case round =>
  obtain⟨m,hm,rfl,rfl⟩:=hrel
  obtain rfl|rfl|rfl|rfl|rfl:m=0∨m=1∨m=2∨m=3∨m=4:=by omega
  ·go_wp2
   go_round
   case rel=>exact⟨1,by omega,rfl,rfl⟩
   case measure=>decide
  ·go_wp2
   go_round
   case rel=>exact⟨2,by omega,rfl,rfl⟩
   case measure=>decide
  ·go_wp2
   go_round
   case rel=>exact⟨3,by omega,rfl,rfl⟩
   case measure=>decide
  ·go_wp2
   go_round
   case rel=>exact⟨4,by omega,rfl,rfl⟩
   case measure=>decide
  ·have hst:=run_storeTab ((w.alloc (.cells (madeCells #[.string ByteArray.empty] 4) 9)).alloc (.cells Tryz.zeroCells402 402)) (w.heap.size+1) (.slice (some ⟨w.heap.size,0,none⟩) 0 4) rfl (by rw[show w.heap.size+1=(w.alloc (.cells (madeCells #[.string ByteArray.empty] 4) 9)).heap.size by simp];exact Go.Deep.blk_alloc_new _ _)
   have hg:((w.alloc (.cells (madeCells #[.string ByteArray.empty] 4) 9)).alloc (.cells Tryz.zeroCells402 402)).heap[w.heap.size+1]?=some (.cells Tryz.zeroCells402 402 (0,0)):=by
    rw[show w.heap.size+1=(w.alloc (.cells (madeCells #[.string ByteArray.empty] 4) 9)).heap.size by simp];exact Go.Deep.blk_alloc_new _ _
   have HROW:=qh (row_zT _ _ (.slice (some ⟨w.heap.size,0,none⟩) 0 4) hg)
   have hown1:=World.ownsRow_made (base:=w.heap.size) (e:=9) (size:=1) w (madeCells #[.string ByteArray.empty] 4) 4 (Nat.le_refl _) (by simp[maxLen]) (size_madeCells _ _)
   have HOWN:=qh (own_keep (own_up hown1 (Up.alloc _ _)) (w':=((w.alloc (.cells (madeCells #[.string ByteArray.empty] 4) 9)).alloc (.cells Tryz.zeroCells402 402)).setRow (w.heap.size+1) (Tryz.zeroCells402.toList.set 256 (.slice (some ⟨w.heap.size,0,none⟩) 0 4)).toArray) (fun q hq=>setRow_other _ _ _ _ (by simp[Value.ownBlock]at hq;omega)))
   have HUP:=qh (show Up w (((w.alloc (.cells (madeCells #[.string ByteArray.empty] 4) 9)).alloc (.cells Tryz.zeroCells402 402)).setRow (w.heap.size+1) (Tryz.zeroCells402.toList.set 256 (.slice (some ⟨w.heap.size,0,none⟩) 0 4)).toArray) from below_setRow ((Up.alloc _ _).allocs _) (by omega) _)
   clear hg hown1;go_wp2;generalize ((w.alloc (.cells (madeCells #[.string ByteArray.empty] 4) 9)).alloc (.cells Tryz.zeroCells402 402)).setRow (w.heap.size+1) (Tryz.zeroCells402.toList.set 256 (.slice (some ⟨w.heap.size,0,none⟩) 0 4)).toArray=w3 at *
   clear hst hmk c0 c1 c2 c3 c4 c5 c6 c7 h4 hr;obtain⟨h,hh⟩:∃h,h=w.heap.size+1:=⟨_,rfl⟩
   rw[← hh]at HROW ⊢
   have hwh:w.heap.size≤h:=by omega
   clear hh;go_loopw [12,13,14] (fun i _ _ wr=>∃(m:Nat) (z:Int) (f:Nat→Value) (C kc:Nat) (xs:List Value),m≤4∧z=2*(m:Int)-2∧i=.int .i64 z∧wr.rowIs h 402 257 f∧TB wr w.heap.size f m∧f 256=.slice (some ⟨C,0,none⟩) (4-m) kc∧wr.ownsRow w.heap.size 9 1 (.slice (some ⟨C,0,none⟩) (4-m) kc) (4-m) xs∧Up w wr) (fun i _ _ _=>(intOf i+2).toNat)
   case atStart=>exact⟨4,6,_,w.heap.size,4,[],by omega,by omega,rfl,HROW.out,fun b hb=>⟨fun _=>by unfold zT;rw[if_neg (by omega)],fun r hr=>by simp[rplM,keyV]at hr⟩,by unfold zT;rw[if_pos rfl],HOWN.out,HUP.out⟩
   case round =>
    obtain⟨m,z,f,C,kc,xs,hm,hz,rfl,hrow,hT,hf,hown,hup⟩:=hrel
    obtain⟨c0,c1,c2,c3,c4,c5,c6,c7⟩:=H8.out.up hup
    have HT:=qh hT
    have HF:=qh hf
    clear hT hf;obtain rfl|rfl|rfl|rfl|rfl:m=0∨m=1∨m=2∨m=3∨m=4:=by omega
    ·have hd:decide ((0:Int)≤z)=false:=by simp;omega
     go_wp2;go_ret;exact⟨h,rfl,hwh,⟨f,hrow,HT.out,_,_,HF.out⟩,hup⟩
    ·obtain rfl:z=0:=by omega
     clear hz hm;have L0:wr.cell? ⟨h,118,none⟩=some (.slice none 0 0):=by rw[World.rowIs.cell hrow (show 118<257 by omega),(HT.out 118 (by omega)).1 (by decide)]
     have L1:wr.cell? ⟨h,256,none⟩=some (.slice (some ⟨C,0,none⟩) 3 kc):=by rw[World.rowIs.cell hrow (show 256<257 by omega),HF.out]
     have hix:((⟨#[118]⟩:ByteArray)[0]'(by decide)).toNat=118:=rfl
     have hcv:=fun wx=>run_conv1 (P:=Tryz.prog) Tryz.underlying183 Tryz.underlying5 Tryz.underlying9 wx 118
     have hen:∀wx,(binOp .eql 183 (.slice none 0 0) (.slice none 0 0)).run Tryz.prog wx=.ok (.bool true) wx:=run_eqNil none 0 0
     have hbs:=fun wx=>run_bytesOf ⟨#[117]⟩ wx
     have hown':wr.ownsRow w.heap.size 9 1 (.slice (some ⟨C,0,none⟩) 3 kc) 3 xs:=hown
     have n3:w.heap.size≤((wr.alloc (.cells #[.int .u8 118] 5)).alloc (.cells #[.string ⟨#[UInt8.ofNat (Int.toNat 118)]⟩] 9)).heap.size:=((hup.allocs _).allocs _).size
     clear hown;go_wp2_with (first|(at_builtin;refine wpList_append_own _ rfl _ _ 29 rfl w.heap.size 9 i0 _ 1 16 Tryz.underlying29 hi0 hz0 hz1 hz2 rfl (by decide) _ _ _ rfl ((hown'.alloc _).alloc _) ⟨wr.heap.size+1,0,none⟩ 1 1 [.string ⟨#[UInt8.ofNat (Int.toNat 118)]⟩] rfl rfl (cell_two_new _ _ _ _) (by simp[Value.oneCell']) (by unfold maxLen;omega) (by omega) n3 ?_))
     intro v' w4 hown4 hgrow _
     have hb4:∀q,(∃cs fr,wr.heap[q]?=some (Obj.cells cs 5 fr)∨wr.heap[q]?=some (Obj.cells cs 402 fr))→w4.heap[q]?=wr.heap[q]?:=fun q hq=>by
      have hlt:q<wr.heap.size:=by
       obtain⟨cs,fr,e|e⟩:=hq<;>exact(Array.getElem?_eq_some_iff.1 e).1
      refine(hgrow.block q (by simp;omega) (fun e=>?_)).trans ?_
      ·obtain⟨cur,fr2,e2⟩:=own_block_type hown' (q:=q) e.symm
       obtain⟨cs,fr,e3|e3⟩:=hq<;>(rw[e2]at e3;cases e3)
      ·exact(Up.alloc _ _).allocs _ |>.block q hlt
     have hu4:=((hup.allocs (.cells #[.int .u8 118] 5)).allocs (.cells #[.string ⟨#[UInt8.ofNat (Int.toNat 118)]⟩] 9)).grown hgrow (fun k hk=>(hown'.lt k hk).1)
     have hrow4:w4.rowIs h 402 257 f:=by
      have hr2:=hrow
      obtain⟨cs,e,-⟩:=hrow
      exact hr2.of_block (hb4 h ⟨cs,_,.inr e⟩)
     have hT4:TB w4 w.heap.size f 1:=HT.out.keep (fun q _ _ ⟨cs,fr,e⟩=>hb4 q ⟨cs,fr,.inl e⟩)
     obtain⟨C2',cc2,e2,-,-,hC2,-⟩:=own_form hown4
     subst e2;obtain⟨C2,rfl,-,-⟩:=hC2 (by omega)
     have M0:w4.cell? ⟨h,256,none⟩=some (f 256):=World.rowIs.cell hrow4 (by omega)
     have M1:w4.frozen? ⟨h,256,none⟩=false:=World.rowIs.frozen hrow4 _
     have hrow5:=World.rowIs.set hrow4 256 (.slice (some ⟨C2,0,none⟩) (3+1) cc2)
     have hlt5:=hrow5.lt
     have hrow6:=hrow5.of_block (Lib.bytesWorld_at_old _ 5 ⟨#[117]⟩ h hlt5)
     have hf6:=World.rowIs.frozen hrow6 118
     have hc6:=World.rowIs.cell hrow6 (show 118<257 by omega)
     have hbs4:w.heap.size≤w4.heap.size:=hu4.size
     have HS:=qh (fun cap=>table_step (cap:=cap) (v5:=.slice (some ⟨C2,0,none⟩) (3+1) cc2) hbs4 hrow4 hT4 hown4 (show keyV[0]?=some (118,[117]) from rfl) (by omega) hu4 hwh)
     clear hgrow hown' L0 L1 n3 hb4 hT4 hrow5 hrow4 hlt5 hrow6;go_wp2;go_roundw
     case rel =>
      obtain⟨f',g1,g2,g3,g4,g5⟩:=HS.out (grownCap (w4.setCell ⟨h,256,none⟩ (.slice (some ⟨C2,0,none⟩) (3+1) cc2)) 1 0 5)
      exact⟨0,0-2,f',C2,cc2,_,by omega,by omega,by go_num,g1,g2,g3,g4,g5⟩
     case measure=>simp[intOf]
    ·obtain rfl:z=2:=by omega
     clear hz hm;have L0:wr.cell? ⟨h,106,none⟩=some (.slice none 0 0):=by rw[World.rowIs.cell hrow (show 106<257 by omega),(HT.out 106 (by omega)).1 (by decide)]
     have L1:wr.cell? ⟨h,256,none⟩=some (.slice (some ⟨C,0,none⟩) 2 kc):=by rw[World.rowIs.cell hrow (show 256<257 by omega),HF.out]
     have hix:((⟨#[106]⟩:ByteArray)[0]'(by decide)).toNat=106:=rfl
     have hcv:=fun wx=>run_conv1 (P:=Tryz.prog) Tryz.underlying183 Tryz.underlying5 Tryz.underlying9 wx 106
     have hen:∀wx,(binOp .eql 183 (.slice none 0 0) (.slice none 0 0)).run Tryz.prog wx=.ok (.bool true) wx:=run_eqNil none 0 0
     have hbs:=fun wx=>run_bytesOf ⟨#[105]⟩ wx
     have hown':wr.ownsRow w.heap.size 9 1 (.slice (some ⟨C,0,none⟩) 2 kc) 2 xs:=hown
     have n3:w.heap.size≤((wr.alloc (.cells #[.int .u8 106] 5)).alloc (.cells #[.string ⟨#[UInt8.ofNat (Int.toNat 106)]⟩] 9)).heap.size:=((hup.allocs _).allocs _).size
     clear hown;go_wp2_with (first|(at_builtin;refine wpList_append_own _ rfl _ _ 29 rfl w.heap.size 9 i0 _ 1 16 Tryz.underlying29 hi0 hz0 hz1 hz2 rfl (by decide) _ _ _ rfl ((hown'.alloc _).alloc _) ⟨wr.heap.size+1,0,none⟩ 1 1 [.string ⟨#[UInt8.ofNat (Int.toNat 106)]⟩] rfl rfl (cell_two_new _ _ _ _) (by simp[Value.oneCell']) (by unfold maxLen;omega) (by omega) n3 ?_))
     intro v' w4 hown4 hgrow _
     have hb4:∀q,(∃cs fr,wr.heap[q]?=some (Obj.cells cs 5 fr)∨wr.heap[q]?=some (Obj.cells cs 402 fr))→w4.heap[q]?=wr.heap[q]?:=fun q hq=>by
      have hlt:q<wr.heap.size:=by
       obtain⟨cs,fr,e|e⟩:=hq<;>exact(Array.getElem?_eq_some_iff.1 e).1
      refine(hgrow.block q (by simp;omega) (fun e=>?_)).trans ?_
      ·obtain⟨cur,fr2,e2⟩:=own_block_type hown' (q:=q) e.symm
       obtain⟨cs,fr,e3|e3⟩:=hq<;>(rw[e2]at e3;cases e3)
      ·exact(Up.alloc _ _).allocs _ |>.block q hlt
     have hu4:=((hup.allocs (.cells #[.int .u8 106] 5)).allocs (.cells #[.string ⟨#[UInt8.ofNat (Int.toNat 106)]⟩] 9)).grown hgrow (fun k hk=>(hown'.lt k hk).1)
     have hrow4:w4.rowIs h 402 257 f:=by
      have hr2:=hrow
      obtain⟨cs,e,-⟩:=hrow
      exact hr2.of_block (hb4 h ⟨cs,_,.inr e⟩)
     have hT4:TB w4 w.heap.size f 2:=HT.out.keep (fun q _ _ ⟨cs,fr,e⟩=>hb4 q ⟨cs,fr,.inl e⟩)
     obtain⟨C2',cc2,e2,-,-,hC2,-⟩:=own_form hown4
     subst e2;obtain⟨C2,rfl,-,-⟩:=hC2 (by omega)
     have M0:w4.cell? ⟨h,256,none⟩=some (f 256):=World.rowIs.cell hrow4 (by omega)
     have M1:w4.frozen? ⟨h,256,none⟩=false:=World.rowIs.frozen hrow4 _
     have hrow5:=World.rowIs.set hrow4 256 (.slice (some ⟨C2,0,none⟩) (2+1) cc2)
     have hlt5:=hrow5.lt
     have hrow6:=hrow5.of_block (Lib.bytesWorld_at_old _ 5 ⟨#[105]⟩ h hlt5)
     have hf6:=World.rowIs.frozen hrow6 106
     have hc6:=World.rowIs.cell hrow6 (show 106<257 by omega)
     have hbs4:w.heap.size≤w4.heap.size:=hu4.size
     have HS:=qh (fun cap=>table_step (cap:=cap) (v5:=.slice (some ⟨C2,0,none⟩) (2+1) cc2) hbs4 hrow4 hT4 hown4 (show keyV[1]?=some (106,[105]) from rfl) (by omega) hu4 hwh)
     clear hgrow hown' L0 L1 n3 hb4 hT4 hrow5 hrow4 hlt5 hrow6;go_wp2;go_roundw
     case rel =>
      obtain⟨f',g1,g2,g3,g4,g5⟩:=HS.out (grownCap (w4.setCell ⟨h,256,none⟩ (.slice (some ⟨C2,0,none⟩) (2+1) cc2)) 1 0 5)
      exact⟨1,2-2,f',C2,cc2,_,by omega,by omega,by go_num,g1,g2,g3,g4,g5⟩
     case measure=>simp[intOf]
    ·obtain rfl:z=4:=by omega
     clear hz hm;have L0:wr.cell? ⟨h,121,none⟩=some (.slice none 0 0):=by rw[World.rowIs.cell hrow (show 121<257 by omega),(HT.out 121 (by omega)).1 (by decide)]
     have L1:wr.cell? ⟨h,256,none⟩=some (.slice (some ⟨C,0,none⟩) 1 kc):=by rw[World.rowIs.cell hrow (show 256<257 by omega),HF.out]
     have hix:((⟨#[121]⟩:ByteArray)[0]'(by decide)).toNat=121:=rfl
     have hcv:=fun wx=>run_conv1 (P:=Tryz.prog) Tryz.underlying183 Tryz.underlying5 Tryz.underlying9 wx 121
     have hen:∀wx,(binOp .eql 183 (.slice none 0 0) (.slice none 0 0)).run Tryz.prog wx=.ok (.bool true) wx:=run_eqNil none 0 0
     have hbs:=fun wx=>run_bytesOf ⟨#[105]⟩ wx
     have hown':wr.ownsRow w.heap.size 9 1 (.slice (some ⟨C,0,none⟩) 1 kc) 1 xs:=hown
     have n3:w.heap.size≤((wr.alloc (.cells #[.int .u8 121] 5)).alloc (.cells #[.string ⟨#[UInt8.ofNat (Int.toNat 121)]⟩] 9)).heap.size:=((hup.allocs _).allocs _).size
     clear hown;go_wp2_with (first|(at_builtin;refine wpList_append_own _ rfl _ _ 29 rfl w.heap.size 9 i0 _ 1 16 Tryz.underlying29 hi0 hz0 hz1 hz2 rfl (by decide) _ _ _ rfl ((hown'.alloc _).alloc _) ⟨wr.heap.size+1,0,none⟩ 1 1 [.string ⟨#[UInt8.ofNat (Int.toNat 121)]⟩] rfl rfl (cell_two_new _ _ _ _) (by simp[Value.oneCell']) (by unfold maxLen;omega) (by omega) n3 ?_))
     intro v' w4 hown4 hgrow _
     have hb4:∀q,(∃cs fr,wr.heap[q]?=some (Obj.cells cs 5 fr)∨wr.heap[q]?=some (Obj.cells cs 402 fr))→w4.heap[q]?=wr.heap[q]?:=fun q hq=>by
      have hlt:q<wr.heap.size:=by
       obtain⟨cs,fr,e|e⟩:=hq<;>exact(Array.getElem?_eq_some_iff.1 e).1
      refine(hgrow.block q (by simp;omega) (fun e=>?_)).trans ?_
      ·obtain⟨cur,fr2,e2⟩:=own_block_type hown' (q:=q) e.symm
       obtain⟨cs,fr,e3|e3⟩:=hq<;>(rw[e2]at e3;cases e3)
      ·exact(Up.alloc _ _).allocs _ |>.block q hlt
     have hu4:=((hup.allocs (.cells #[.int .u8 121] 5)).allocs (.cells #[.string ⟨#[UInt8.ofNat (Int.toNat 121)]⟩] 9)).grown hgrow (fun k hk=>(hown'.lt k hk).1)
     have hrow4:w4.rowIs h 402 257 f:=by
      have hr2:=hrow
      obtain⟨cs,e,-⟩:=hrow
      exact hr2.of_block (hb4 h ⟨cs,_,.inr e⟩)
     have hT4:TB w4 w.heap.size f 3:=HT.out.keep (fun q _ _ ⟨cs,fr,e⟩=>hb4 q ⟨cs,fr,.inl e⟩)
     obtain⟨C2',cc2,e2,-,-,hC2,-⟩:=own_form hown4
     subst e2;obtain⟨C2,rfl,-,-⟩:=hC2 (by omega)
     have M0:w4.cell? ⟨h,256,none⟩=some (f 256):=World.rowIs.cell hrow4 (by omega)
     have M1:w4.frozen? ⟨h,256,none⟩=false:=World.rowIs.frozen hrow4 _
     have hrow5:=World.rowIs.set hrow4 256 (.slice (some ⟨C2,0,none⟩) (1+1) cc2)
     have hlt5:=hrow5.lt
     have hrow6:=hrow5.of_block (Lib.bytesWorld_at_old _ 5 ⟨#[105]⟩ h hlt5)
     have hf6:=World.rowIs.frozen hrow6 121
     have hc6:=World.rowIs.cell hrow6 (show 121<257 by omega)
     have hbs4:w.heap.size≤w4.heap.size:=hu4.size
     have HS:=qh (fun cap=>table_step (cap:=cap) (v5:=.slice (some ⟨C2,0,none⟩) (1+1) cc2) hbs4 hrow4 hT4 hown4 (show keyV[2]?=some (121,[105]) from rfl) (by omega) hu4 hwh)
     clear hgrow hown' L0 L1 n3 hb4 hT4 hrow5 hrow4 hlt5 hrow6;go_wp2;go_roundw
     case rel =>
      obtain⟨f',g1,g2,g3,g4,g5⟩:=HS.out (grownCap (w4.setCell ⟨h,256,none⟩ (.slice (some ⟨C2,0,none⟩) (1+1) cc2)) 1 0 5)
      exact⟨2,4-2,f',C2,cc2,_,by omega,by omega,by go_num,g1,g2,g3,g4,g5⟩
     case measure=>simp[intOf]
    ·obtain rfl:z=6:=by omega
     clear hz hm;have L0:wr.cell? ⟨h,119,none⟩=some (.slice none 0 0):=by rw[World.rowIs.cell hrow (show 119<257 by omega),(HT.out 119 (by omega)).1 (by decide)]
     have L1:wr.cell? ⟨h,256,none⟩=some (.slice (some ⟨C,0,none⟩) 0 kc):=by rw[World.rowIs.cell hrow (show 256<257 by omega),HF.out]
     have hix:((⟨#[119]⟩:ByteArray)[0]'(by decide)).toNat=119:=rfl
     have hcv:=fun wx=>run_conv1 (P:=Tryz.prog) Tryz.underlying183 Tryz.underlying5 Tryz.underlying9 wx 119
     have hen:∀wx,(binOp .eql 183 (.slice none 0 0) (.slice none 0 0)).run Tryz.prog wx=.ok (.bool true) wx:=run_eqNil none 0 0
     have hbs:=fun wx=>run_bytesOf ⟨#[117,117]⟩ wx
     have hown':wr.ownsRow w.heap.size 9 1 (.slice (some ⟨C,0,none⟩) 0 kc) 0 xs:=hown
     have n3:w.heap.size≤((wr.alloc (.cells #[.int .u8 119] 5)).alloc (.cells #[.string ⟨#[UInt8.ofNat (Int.toNat 119)]⟩] 9)).heap.size:=((hup.allocs _).allocs _).size
     clear hown;go_wp2_with (first|(at_builtin;refine wpList_append_own _ rfl _ _ 29 rfl w.heap.size 9 i0 _ 1 16 Tryz.underlying29 hi0 hz0 hz1 hz2 rfl (by decide) _ _ _ rfl ((hown'.alloc _).alloc _) ⟨wr.heap.size+1,0,none⟩ 1 1 [.string ⟨#[UInt8.ofNat (Int.toNat 119)]⟩] rfl rfl (cell_two_new _ _ _ _) (by simp[Value.oneCell']) (by unfold maxLen;omega) (by omega) n3 ?_))
     intro v' w4 hown4 hgrow _
     have hb4:∀q,(∃cs fr,wr.heap[q]?=some (Obj.cells cs 5 fr)∨wr.heap[q]?=some (Obj.cells cs 402 fr))→w4.heap[q]?=wr.heap[q]?:=fun q hq=>by
      have hlt:q<wr.heap.size:=by
       obtain⟨cs,fr,e|e⟩:=hq<;>exact(Array.getElem?_eq_some_iff.1 e).1
      refine(hgrow.block q (by simp;omega) (fun e=>?_)).trans ?_
      ·obtain⟨cur,fr2,e2⟩:=own_block_type hown' (q:=q) e.symm
       obtain⟨cs,fr,e3|e3⟩:=hq<;>(rw[e2]at e3;cases e3)
      ·exact(Up.alloc _ _).allocs _ |>.block q hlt
     have hu4:=((hup.allocs (.cells #[.int .u8 119] 5)).allocs (.cells #[.string ⟨#[UInt8.ofNat (Int.toNat 119)]⟩] 9)).grown hgrow (fun k hk=>(hown'.lt k hk).1)
     have hrow4:w4.rowIs h 402 257 f:=by
      have hr2:=hrow
      obtain⟨cs,e,-⟩:=hrow
      exact hr2.of_block (hb4 h ⟨cs,_,.inr e⟩)
     have hT4:TB w4 w.heap.size f 4:=HT.out.keep (fun q _ _ ⟨cs,fr,e⟩=>hb4 q ⟨cs,fr,.inl e⟩)
     obtain⟨C2',cc2,e2,-,-,hC2,-⟩:=own_form hown4
     subst e2;obtain⟨C2,rfl,-,-⟩:=hC2 (by omega)
     have M0:w4.cell? ⟨h,256,none⟩=some (f 256):=World.rowIs.cell hrow4 (by omega)
     have M1:w4.frozen? ⟨h,256,none⟩=false:=World.rowIs.frozen hrow4 _
     have hrow5:=World.rowIs.set hrow4 256 (.slice (some ⟨C2,0,none⟩) (0+1) cc2)
     have hlt5:=hrow5.lt
     have hrow6:=hrow5.of_block (Lib.bytesWorld_at_old _ 5 ⟨#[117,117]⟩ h hlt5)
     have hf6:=World.rowIs.frozen hrow6 119
     have hc6:=World.rowIs.cell hrow6 (show 119<257 by omega)
     have hbs4:w.heap.size≤w4.heap.size:=hu4.size
     have HS:=qh (fun cap=>table_step (cap:=cap) (v5:=.slice (some ⟨C2,0,none⟩) (0+1) cc2) hbs4 hrow4 hT4 hown4 (show keyV[3]?=some (119,[117,117]) from rfl) (by omega) hu4 hwh)
     clear hgrow hown' L0 L1 n3 hb4 hT4 hrow5 hrow4 hlt5 hrow6;go_wp2;go_roundw
     case rel =>
      obtain⟨f',g1,g2,g3,g4,g5⟩:=HS.out (grownCap (w4.setCell ⟨h,256,none⟩ (.slice (some ⟨C2,0,none⟩) (0+1) cc2)) 2 0 5)
      exact⟨3,6-2,f',C2,cc2,_,by omega,by omega,by go_num,g1,g2,g3,g4,g5⟩
     case measure=>simp[intOf]
end Go.Proofs.YtaoplcclemckjaaGreatDoor
