/- All places of a phrase at which words occur, by the reference and by the program. -/
import Derived.Test.YtaoplcclemckjaaGreatDoorReplC
import Derived.Test.YtaoplcclemckjaaGreatDoorDel
import Derived.Test.YtaoplcclemckjaaGreatDoorVb
import Derived.Deep.RegionHeld3
set_option maxHeartbeats 4000000
set_option maxRecDepth 100000
namespace Go.Proofs.YtaoplcclemckjaaGreatDoor
open Go.RowKit Go.Sort
def fdB(P W:List ByteArray)(j:Nat):Bool:=decide (j+W.length≤P.length) && alL ((P.drop j).take W.length) W
def fdL(P W:List ByteArray):List Int:=pl (fdB P W) P.length
theorem fdB_no{P W:List ByteArray}{j:Nat}(h:¬ j+W.length≤P.length):fdB P W j=false:=by unfold fdB;rw[decide_eq_false h];rfl
theorem fdB_in{P W:List ByteArray}{j:Nat}(h:j+W.length≤P.length):fdB P W j=alL ((P.drop j).take W.length) W:=by unfold fdB;rw[decide_eq_true h];rfl
theorem pl_stop{p:Nat→Bool}:∀{n k:Nat},k≤n→(∀j,k≤j→j<n→p j=false)→pl p n=pl p k
 | 0,k,h,_=>by rw[show k=0 by omega]
 | n+1,k,h,hp=>by
   by_cases e:k=n+1
   ·rw[e]
   ·rw[pl_no (hp n (by omega) (by omega))];exact pl_stop (by omega) fun j h1 h2=>hp j h1 (by omega)
theorem Rd.sub{w:World}{lo hi b off:Nat}{l:List ByteArray}(h:RdT w lo hi (some ⟨b,off,none⟩) l)(j m:Nat):RdT w lo hi (some ⟨b,off+j,none⟩) ((l.drop j).take m):=by
 have:=(Rd.drop h j).take m
 rwa [Nat.mul_one]at this
theorem run_sliceMid{P:Program}{t:TypeId}(ht:P.underlying t=some (.slice (P.elem t)))(hs:∀w,(sizeOf (P.elem t)).run P w=.ok 1 w)(b off n c j k:Nat)(hjk:j≤k)(hk:k≤c) :
 ∃A2:Option Addr,(A2=some ⟨b,off+j,none⟩∨j=k)∧∀(kd kd':IntKind) (x y:Int) (w:World),x=(j:Int)→y=(k:Int)→(Instr.sliceAt t (.slice (some ⟨b,off,none⟩) n c) (some (.int kd x)) (some (.int kd' y)) none).run P w=.ok (.slice A2 (k-j) (c-j)) w:=by
 by_cases hck:c=j
 ·refine⟨some ⟨b,off,none⟩,.inr (by omega),fun kd kd' x y w hx hy=>?_⟩
  subst hx;subst hy
  rw[run_sliceAt_slice w t _ _ _ _ ht,run_slice_lh w t _ n c ht kd kd' (j:Int) (k:Int) (by omega) (by omega) (by omega),hs]
  simp[Result.andThen,sliced,hck]
 ·refine⟨some ⟨b,off+j,none⟩,.inl rfl,fun kd kd' x y w hx hy=>?_⟩
  subst hx;subst hy
  rw[run_sliceAt_slice w t _ _ _ _ ht,run_slice_lh w t _ n c ht kd kd' (j:Int) (k:Int) (by omega) (by omega) (by omega),hs]
  simp[Result.andThen,sliced,hck,Addr.add]
theorem sub_len{l:List ByteArray}{j m:Nat}(h:j+m≤l.length):((l.drop j).take m).length=m:=by rw[List.length_take,List.length_drop];omega
theorem sub_mem{l:List ByteArray}{j m:Nat}{x:ByteArray}(h:x∈(l.drop j).take m):x∈l:=List.mem_of_mem_drop (List.mem_of_mem_take h)
theorem l24Find_any(A B:Option Addr)(P W:List ByteArray)(ca cb lo hi lo' hi':Nat)(w:World)(hr:RdT w lo hi A P)(hhi:hi≤w.heap.size)(hr':RdT w lo' hi' B W)(hhi':hi'≤w.heap.size)
 (hP:∀x∈P,x.size<32) (hW:∀x∈W,x.size<32) (hn:P.length≤2000000) (hn':W.length≤2000000) (h0:0<W.length) (hc:P.length≤ca) :
 Calls Tryz.prog 176 #[.slice A P.length ca,.slice B W.length cb] w fun e w'=>∃v,e=.returned v∧w'.ownsRow w.heap.size 2 1 v (fdL P W).length ((fdL P W).flatMap intCells)∧Up w w':=by
 obtain⟨i0,hi0,hz0,hz1,hz2⟩:=info_parts infoIntP
 have HP:=qh hP
 have HW:=qh hW
 clear hP hW;go_enter Tryz.func176,Tryz.ntmps176
 go_wp2;have hown0:=World.ownsRow_lit (base:=w.heap.size) (e:=2) (size:=1) w #[] 0 (Nat.le_refl _) (by simp[maxLen]) rfl
 have hup0:=(Up.refl w).allocs (.cells #[] 2)
 obtain⟨v0,hv0⟩:∃v,v=Value.slice (some ⟨w.heap.size,0,none⟩) 0 0:=⟨_,rfl⟩
 rw[← hv0]at hown0 ⊢
 generalize w.alloc (.cells #[] 2)=w2 at *
 clear hv0;go_loopw [5,6] (fun o i wr=>∃k:Nat,k≤P.length∧i=.int .i64 k∧wr.ownsRow w.heap.size 2 1 o (pl (fdB P W) k).length ((pl (fdB P W) k).flatMap intCells)∧Up w wr) (fun _ i _=>P.length-(intOf i).toNat)
 case atStart=>exact⟨0,Nat.zero_le _,rfl,hown0,hup0⟩
 case round =>
  obtain⟨k,hk,rfl,hown,hup⟩:=hrel
  have hpl:=pl_len (fdB P W) k
  by_cases hlt:k+W.length≤P.length
  ·have hlti:decide ((k:Int)+(W.length:Int)≤(P.length:Int))=true:=by simp;omega
   obtain⟨b,off,x,rfl,-,-,-,-⟩:=(hr.up hup hhi).txt (show k<P.length by omega)
   obtain⟨A2,hA2,hcut⟩:=run_sliceMid (P:=Tryz.prog) (t:=29) Tryz.underlying29 (fun _=>rfl) b off P.length ca k (k+W.length) (by omega) (by omega)
   obtain rfl:A2=some ⟨b,off+k,none⟩:=by
    rcases hA2 with e|e
    ·exact e
    ·omega
   have hcut2:∀wx,(Instr.sliceAt 29 (.slice (some ⟨b,off,none⟩) P.length ca) (some (.int .i64 (k:Int))) (some (.int .i64 ((k:Int)+(W.length:Int)))) none).run Tryz.prog wx=.ok (.slice (some ⟨b,off+k,none⟩) W.length (ca-k)) wx:=fun wx=>by
    have:=hcut .i64 .i64 (k:Int) ((k:Int)+(W.length:Int)) wx rfl (by omega)
    rwa [show k+W.length-k=W.length by omega]at this
   have hsl:=sub_len (l:=P) hlt
   have hC:=l24Alike_any (some ⟨b,off+k,none⟩) B ((P.drop k).take W.length) W (ca-k) cb lo hi lo' hi' wr (Rd.sub (hr.up hup hhi) k W.length) (Nat.le_trans hhi hup.size) (hr'.up hup hhi') (Nat.le_trans hhi' hup.size) (fun x hx=>HP.out x (sub_mem hx)) HW.out (by omega) (by omega)
   rw[hsl,← fdB_in hlt]at hC;have HC:=qh hC
   clear hC hcut hsl;go_wp2_with fail
   refine HC.out.mono ?_
   rintro e w3 ⟨rfl,hup3⟩
   have hown3:=own_up hown hup3
   have hupx:=hup.trans hup3
   by_cases hp:fdB P W k=true
   ·have HPP:=qh hp
    have n1:(pl (fdB P W) k).length+1≤maxLen:=by unfold maxLen;omega
    have n2:((pl (fdB P W) k).length+1)*8≤140737488355328:=by omega
    have n3:w.heap.size≤(w3.alloc (.cells #[.int .i64 (k:Int)] 2)).heap.size:=(hupx.allocs _).size
    go_wp2_with ((at_builtin;refine wpList_append_own _ rfl _ _ 169 rfl w.heap.size 2 i0 _ 1 8 Tryz.underlying169 hi0 hz0 hz1 hz2 rfl (by decide) _ _ _ rfl (hown3.alloc _) ⟨w3.heap.size,0,none⟩ 1 1 [.int .i64 (k:Int)] rfl rfl (cell_one_new _ _ _) (by simp[Value.oneCell']) n1 n2 n3 ?_))
    intro v' w4 hown' hgrow _
    have ho:=pl_step HPP.out hown'
    have hu:=(hupx.allocs (.cells #[.int .i64 (k:Int)] 2)).grown hgrow (fun k hk=>(hown3.lt k hk).1)
    clear hown' hgrow hp;go_wp2;go_roundw
    case rel=>exact⟨k+1,by omega,by go_num,ho,hu⟩
    case measure=>simp[intOf];omega
   ·have hp':fdB P W k=false:=by simpa using hp
    have HPP:=qh hp'
    clear hp;go_wp2;go_roundw
    case rel=>exact⟨k+1,by omega,by go_num,by rw[pl_no HPP.out];exact hown3,hupx⟩
    case measure=>simp[intOf];omega
  ·have hlti:decide ((k:Int)+(W.length:Int)≤(P.length:Int))=false:=by simp;omega
   have HE:=qh (show fdL P W=pl (fdB P W) k from pl_stop hk fun j h1 h2=>fdB_no (by omega))
   go_wp2;go_ret;exact⟨_,rfl,by rw[HE.out];exact hown,hup⟩
theorem findClosure_any(A B:Option Addr)(P W:List ByteArray)(ca cb lo hi lo' hi' vP vW j:Nat)(w:World)(hr:RdT w lo hi A P)(hhi:hi≤w.heap.size)(hr':RdT w lo' hi' B W)(hhi':hi'≤w.heap.size)
 (hP:∀x∈P,x.size<32) (hW:∀x∈W,x.size<32) (hn:P.length≤2000000) (hn':W.length≤2000000) (hc:P.length≤ca) (hj:j<P.length)
 (c1:w.cell? ⟨vP,0,none⟩=some (.slice A P.length ca)) (c2:w.cell? ⟨vW,0,none⟩=some (.slice B W.length cb)) :
 Calls Tryz.prog 200 #[.int .i64 (j:Int),.pointer (some ⟨vW,0,none⟩),.pointer (some ⟨vP,0,none⟩)] w fun e w'=>e=.returned (.bool (fdB P W j))∧Up w w':=by
 have C1:=cell_regrown c1
 have C2:=cell_regrown c2
 have hwr:IntKind.i64.wrap ((j:Int)+(W.length:Int))=(j:Int)+(W.length:Int):=IntWalk.i64_in _ (by omega)
 by_cases hlt:j+W.length≤P.length
 ·have hlti:decide ((j:Int)+(W.length:Int)≤(P.length:Int))=true:=by simp;omega
  obtain⟨b,off,x,rfl,-,-,-,-⟩:=hr.txt hj
  obtain⟨A2,hA2,hcut⟩:=run_sliceMid (P:=Tryz.prog) (t:=29) Tryz.underlying29 (fun _=>rfl) b off P.length ca j (j+W.length) (by omega) (by omega)
  have hrs:RdT w lo hi A2 ((P.drop j).take W.length):=by
   rcases hA2 with e|e
   ·rw[e];exact Rd.sub hr j W.length
   ·rw[show W.length=0 by omega,List.take_zero];exact Rd.nil_
  have hcut2:∀wx,(Instr.sliceAt 29 (.slice (some ⟨b,off,none⟩) P.length ca) (some (.int .i64 (j:Int))) (some (.int .i64 ((j:Int)+(W.length:Int)))) none).run Tryz.prog wx=.ok (.slice A2 W.length (ca-j)) wx:=fun wx=>by
   have:=hcut .i64 .i64 (j:Int) ((j:Int)+(W.length:Int)) wx rfl (by omega)
   rwa [show j+W.length-j=W.length by omega]at this
  have hsl:=sub_len (l:=P) hlt
  have hC:=fun dd os=>allAlike_any A2 B ((P.drop j).take W.length) W (ca-j) cb lo hi lo' hi' (grow (redrawn w dd) os) (hrs.up (below_regrown _ _ _) hhi) (Nat.le_trans hhi (below_regrown _ _ _).size) (hr'.up (below_regrown _ _ _) hhi') (Nat.le_trans hhi' (below_regrown _ _ _).size) (fun x hx=>hP x (sub_mem hx)) hW (by omega) (by omega)
  simp only[hsl,← fdB_in hlt]at hC
  have cD:∀dd os,Calls Tryz.prog 155 #[.slice A2 W.length (ca-j),.slice B W.length cb] (grow (redrawn w dd) os) fun e w''=>e=.returned (.bool (fdB P W j))∧∃p:Regrown,w''=grow (redrawn w p.d) p.os :=
   fun dd os=>Calls.regrown_of (hC dd os)
  have CD:=qh cD
  clear hC cD hcut hsl hA2 hrs hP hW c1 c2 hlt;go_enter Tryz.func200,Tryz.ntmps200
  go_wp2_with fail
  refine wp_region_quiet_below (by kernel_rfl) (by kernel_rfl) ?_
  repeat (first|go_big_quiet_step ((go_at_call 155;exact CD.out _ _))|quiet_step ((go_at_call 155;exact CD.out _ _)))
  refine wpQuiet_nil ?_
  intro w7 hw7
  obtain⟨⟨dq,osq⟩,hw7⟩:=hw7
  have hup7:Up w w7:=by rw[hw7];exact below_regrown _ _ _
  clear hw7;go_wp2;go_ret;exact⟨rfl,hup7⟩
 ·have hlti:decide ((j:Int)+(W.length:Int)≤(P.length:Int))=false:=by simp;omega
  have HE:=qh (fdB_no (P:=P) (W:=W) (j:=j) hlt)
  clear hP hW c1 c2;go_enter Tryz.func200,Tryz.ntmps200
  go_wp2_with fail
  refine wp_region_quiet_below (by kernel_rfl) (by kernel_rfl) ?_
  repeat (first|go_big_quiet_step (fail)|quiet_step (fail))
  refine wpQuiet_nil ?_
  intro w7 hw7
  obtain⟨⟨dq,osq⟩,hw7⟩:=hw7
  have hup7:Up w w7:=by rw[hw7];exact below_regrown _ _ _
  clear hw7;go_wp2;go_ret;exact⟨ret_bool HE.out.symm,hup7⟩
theorem findWords_any(A B:Option Addr)(P W:List ByteArray)(ca cb lo hi lo' hi':Nat)(w:World)(hr:RdT w lo hi A P)(hhi:hi≤w.heap.size)(hr':RdT w lo' hi' B W)(hhi':hi'≤w.heap.size)
 (hP:∀x∈P,x.size<32) (hW:∀x∈W,x.size<32) (hn:P.length≤2000000) (hn':W.length≤2000000) (hc:P.length≤ca) :
 Calls Tryz.prog 154 #[.slice A P.length ca,.slice B W.length cb] w fun e w'=>∃v,e=.returned v∧w'.ownsRow w.heap.size 2 1 v (fdL P W).length ((fdL P W).flatMap intCells)∧Up w w':=by
 have hu0:=(Up.alloc w (.cells #[.slice A P.length ca] 29)).allocs (.cells #[.slice B W.length cb] 29)
 have hsz:((w.alloc (.cells #[.slice A P.length ca] 29)).alloc (.cells #[.slice B W.length cb] 29)).heap.size=w.heap.size+2:=by simp
 have c1:((w.alloc (.cells #[.slice A P.length ca] 29)).alloc (.cells #[.slice B W.length cb] 29)).cell? ⟨w.heap.size,0,none⟩=some (.slice A P.length ca):=by simp
 have c2:((w.alloc (.cells #[.slice A P.length ca] 29)).alloc (.cells #[.slice B W.length cb] 29)).cell? ⟨w.heap.size+1,0,none⟩=some (.slice B W.length cb):=by simp
 have hpw:=placesWith_any P.length 200 #[.pointer (some ⟨w.heap.size+1,0,none⟩),.pointer (some ⟨w.heap.size,0,none⟩)] (fdB P W) _ (by omega) (fun _ _=>by kernel_rfl) (fun j hj w1 hu =>
  findClosure_any A B P W ca cb lo hi lo' hi' w.heap.size (w.heap.size+1) j w1 (hr.up (hu0.trans hu) hhi) (Nat.le_trans hhi (hu0.trans hu).size) (hr'.up (hu0.trans hu) hhi') (Nat.le_trans hhi' (hu0.trans hu).size) hP hW hn hn' hc hj (hu.cell c1) (hu.cell c2))
 have HPW:=qh hpw
 have hmf:∀(fn:Fn) (first cap:Array Value) (w:World),(Instr.makeFunc fn first cap).run Tryz.prog w=.ok (.func fn first cap) w:=fun _ _ _ _=>rfl
 clear hpw c1 c2 hP hW;go_enter Tryz.func154,Tryz.ntmps154
 go_wp2_with fail
 refine HPW.out.mono ?_
 rintro e w3 ⟨v,rfl,ho,hup3⟩
 have HO:=qh (own_base ho hu0.size)
 clear ho;go_wp2;go_ret;exact⟨v,rfl,HO.out,hu0.trans hup3⟩
theorem phB_small{ws:List ByteArray}(h:phB ws=true):(∀x∈ws,x.size<32)∧ws.length≤60:=by
 unfold phB at h
 rw[Bool.and_eq_true,decide_eq_true_eq]at h;exact⟨fun x hx=>by have:=nameB_size (List.all_eq_true.1 h.1 x hx);omega,h.2⟩
theorem fmB_small{p:List ByteArray × Int × Int}(h:fmB p=true):(∀x∈p.1,x.size<32)∧p.1.length≤60∧0<p.1.length:=by
 unfold fmB at h
 simp only[Bool.and_eq_true,decide_eq_true_eq]at h
 have:=phB_small h.2.1
 exact⟨this.1,this.2,by omega⟩
theorem ret_vk{k:IntKind}{v:Value}{a' b':Int}(h':a'=b'):Ending.returned (.tuple #[v,.int k a'])=.returned (.tuple #[v,.int k b']):=by rw[h']
abbrev FmP:=List ByteArray × Int × Int
def afP(ps:List FmP):Bool:=decide (ps.length≤20) && !(ps.any fun p=>!fmB p)
theorem afB_p(l:List Fm):afB l=afP (l.map Fm.p):=by simp[afB,afP,List.any_map,Function.comp_def]
theorem afP_small{ps:List FmP}(h:afP ps=true):ps.length≤20∧∀p∈ps,(∀x∈p.1,x.size<32)∧p.1.length≤60∧0<p.1.length:=by
 unfold afP at h
 rw[Bool.and_eq_true,decide_eq_true_eq]at h;refine⟨h.1,fun p hp=>fmB_small ?_⟩
 have h2:=h.2
 rw[Bool.not_eq_true',List.any_eq_false]at h2;simpa using h2 p hp
def fnB(P:List ByteArray)(p:FmP):Bool:=decide (0<(fdL P p.1).length)
def occB(P:List ByteArray)(ps:List FmP)(j:Nat):Bool:=match ps[j]? with|some p=>fnB P p|none=>false
theorem occB_at{P:List ByteArray}{l:List Fm}{j:Nat}{x:Fm}(h:l[j]?=some x):occB P (l.map Fm.p) j=decide (0<(fdL P x.ws).length):=by
 unfold occB;rw[List.getElem?_map,h];rfl
def occL(P:List ByteArray)(ps:List FmP):List Int:=pl (occB P ps) ps.length
def fiB(P:List ByteArray)(ps:List FmP):Bool:=afP ps && phB P
def fiC(P:List ByteArray)(ps:List FmP):Int:=if fiB P ps=true then 0 else 1
def SmF(l:List Fm):Prop:=∀x∈l,(∀s∈x.ws,s.size<32)∧x.ws.length≤60∧0<x.ws.length
theorem SmF.of{l:List Fm}(h:afP (l.map Fm.p)=true):SmF l:=fun x hx=>(afP_small h).2 x.p (List.mem_map_of_mem hx)
theorem l24In_any(A B:Option Addr)(l:List Fm)(P:List ByteArray)(ca cb lo hi lo' hi':Nat)(w:World)(hr:RdF w lo hi A l)(hhi:hi≤w.heap.size)(hr':RdT w lo' hi' B P)(hhi':hi'≤w.heap.size)
 (hP:∀x∈P,x.size<32) (hn':P.length≤2000000) (hcb:P.length≤cb) (hs:SmF l) (hn:l.length≤2000000) :
 Calls Tryz.prog 136 #[.slice A l.length ca,.slice B P.length cb] w fun e w'=>∃v,e=.returned v∧w'.ownsRow w.heap.size 2 1 v (occL P (l.map Fm.p)).length ((occL P (l.map Fm.p)).flatMap intCells)∧Up w w':=by
 obtain⟨i0,hi0,hz0,hz1,hz2⟩:=info_parts infoIntP
 have HP:=qh hP
 have HS:=qh hs
 clear hP hs;have HE:=qh (show occL P (l.map Fm.p)=pl (occB P (l.map Fm.p)) l.length by simp[occL])
 obtain⟨q,hq⟩:∃q,q=occB P (l.map Fm.p):=⟨_,rfl⟩
 rw[← hq]at HE;have HQ:=qh hq
 clear hq;go_enter Tryz.func136,Tryz.ntmps136
 go_wp2;have hown0:=World.ownsRow_lit (base:=w.heap.size) (e:=2) (size:=1) w #[] 0 (Nat.le_refl _) (by simp[maxLen]) rfl
 have hup0:=(Up.refl w).allocs (.cells #[] 2)
 obtain⟨v0,hv0⟩:∃v,v=Value.slice (some ⟨w.heap.size,0,none⟩) 0 0:=⟨_,rfl⟩
 rw[← hv0]at hown0 ⊢
 generalize w.alloc (.cells #[] 2)=w2 at *
 clear hv0;go_loopw [5,6] (fun o i wr=>∃k:Nat,k≤l.length∧i=.int .i64 k∧wr.ownsRow w.heap.size 2 1 o (pl q k).length ((pl q k).flatMap intCells)∧Up w wr) (fun _ i _=>l.length-(intOf i).toNat)
 case atStart=>exact⟨0,Nat.zero_le _,rfl,hown0,hup0⟩
 case round =>
  obtain⟨k,hk,rfl,hown,hup⟩:=hrel
  have hpl:=pl_len q k
  by_cases hlt:k<l.length
  ·obtain⟨b,off,d,rfl,hlo,hb,hd,hin,q0,-,-⟩:=(hr.up hup hhi).at_ hlt
   have HD:=qh hd
   have hsd:=HS.out d (List.mem_of_getElem? hd)
   clear hd;have hQ:q k=decide (0<(fdL P d.ws).length):=by rw[HQ.out];exact occB_at HD.out
   have HC:=qh (l24Find_any B d.A P d.ws cb d.c lo' hi' lo hi wr (hr'.up hup hhi') (Nat.le_trans hhi' hup.size) hin (Nat.le_trans hhi hup.size) HP.out hsd.1 hn' (by omega) hsd.2.2 hcb)
   have HQK:=qh hQ
   clear hQ hsd hin;go_wp2_with fail
   refine HC.out.mono ?_
   rintro e w3 ⟨v,rfl,hov,hup3⟩
   obtain⟨Av,cv,rfl,-,-,-,-⟩:=own_form hov
   clear hov HC;have hown3:=own_up hown hup3
   have hupx:=hup.trans hup3
   generalize (fdL P d.ws).length=m at *
   by_cases hp:0<m
   ·have hd1:decide ((0:Int)<(m:Int))=true:=by simpa using hp
    have HPP:=qh (show q k=true by rw[HQK.out];simpa using hp)
    have n1:(pl q k).length+1≤maxLen:=by unfold maxLen;omega
    have n2:((pl q k).length+1)*8≤140737488355328:=by omega
    have n3:w.heap.size≤(w3.alloc (.cells #[.int .i64 (k:Int)] 2)).heap.size:=(hupx.allocs _).size
    go_wp2_with ((at_builtin;refine wpList_append_own _ rfl _ _ 169 rfl w.heap.size 2 i0 _ 1 8 Tryz.underlying169 hi0 hz0 hz1 hz2 rfl (by decide) _ _ _ rfl (hown3.alloc _) ⟨w3.heap.size,0,none⟩ 1 1 [.int .i64 (k:Int)] rfl rfl (cell_one_new _ _ _) (by simp[Value.oneCell']) n1 n2 n3 ?_))
    intro v' w4 hown' hgrow _
    have ho:=pl_step HPP.out hown'
    have hu:=(hupx.allocs (.cells #[.int .i64 (k:Int)] 2)).grown hgrow (fun k hk=>(hown3.lt k hk).1)
    clear hown' hgrow;go_wp2;go_roundw
    case rel=>exact⟨k+1,by omega,by go_num,ho,hu⟩
    case measure=>simp[intOf];omega
   ·have hd1:decide ((0:Int)<(m:Int))=false:=by simpa using hp
    have HPP:=qh (show q k=false by rw[HQK.out];simpa using hp)
    go_wp2;go_roundw
    case rel=>exact⟨k+1,by omega,by go_num,by rw[pl_no HPP.out];exact hown3,hupx⟩
    case measure=>simp[intOf];omega
  ·obtain rfl:k=l.length:=by omega
   go_wp2;go_ret;exact⟨_,rfl,by rw[HE.out];exact hown,hup⟩
theorem inClosure_any(A B:Option Addr)(l:List Fm)(P:List ByteArray)(ca cb lo hi lo' hi' vP vL j:Nat)(w:World)(hr:RdF w lo hi A l)(hhi:hi≤w.heap.size)(hr':RdT w lo' hi' B P)(hhi':hi'≤w.heap.size)
 (hP:∀x∈P,x.size<32) (hn':P.length≤2000000) (hcb:P.length≤cb) (hs:SmF l) (_hn:l.length≤2000000) (hj:j<l.length)
 (c1:w.cell? ⟨vP,0,none⟩=some (.slice B P.length cb)) (c2:w.cell? ⟨vL,0,none⟩=some (.slice A l.length ca)) :
 Calls Tryz.prog 153 #[.int .i64 (j:Int),.pointer (some ⟨vP,0,none⟩),.pointer (some ⟨vL,0,none⟩)] w fun e w'=>e=.returned (.bool (occB P (l.map Fm.p) j))∧Up w w':=by
 obtain⟨b,off,d,rfl,hlo,hb,hd,hin,q0,-,-⟩:=hr.at_ hj
 have hsd:=hs d (List.mem_of_getElem? hd)
 have HB:=qh (occB_at (P:=P) hd)
 have HC:=qh (fun(wx:World) (hx:Up w wx)=>findWords_any B d.A P d.ws cb d.c lo' hi' lo hi wx (hr'.up hx hhi') (Nat.le_trans hhi' hx.size) (hin.up hx hhi) (Nat.le_trans hhi hx.size) hP hsd.1 hn' (by omega) hcb)
 clear hsd hin hd hP hs;have hdw:Up w w.drew:=(Up.refl _).drew
 go_enter Tryz.func153,Tryz.ntmps153
 go_wp2_with fail
 go_region_held3 (fun w'=>Up w w'∧w'.cell? ⟨vP,0,none⟩=some (.slice B P.length cb)∧w'.cell? ⟨vL,0,none⟩=some (.slice (some ⟨b,off,none⟩) l.length ca)∧w'.cell? ⟨b,off+j*3,none⟩=some (.slice d.A d.ws.length d.c))
  (first|exact⟨Up.refl _,c1,c2,q0⟩|exact⟨hdw,c1,c2,q0⟩|exact⟨by assumption,by assumption,by assumption,by assumption⟩)
  (first
    |(go_at_call 154
      with_reducible refine(HC.out _ (by assumption)).mono ?_
      rintro e wb ⟨v,rfl,hov,ub⟩
      have hSb:Up w wb:=Up.trans (by assumption) ub
      obtain⟨Av,cv,rfl,-,-,-,-⟩:=own_form hov
      clear hov;have kb1:=hSb.cell c1
      have kb2:=hSb.cell c2
      have kb3:=hSb.cell q0))
 all_goals
  clear HC kb1 kb2 kb3 c1 c2 q0;go_wp2;go_ret;refine⟨ret_bool ?_,hSb⟩
  rw[HB.out,decide_eq_decide]
theorem formulasIn_any(A B:Option Addr)(l:List Fm)(P:List ByteArray)(ca cb lo hi lo' hi':Nat)(w:World)(hr:RdF w lo hi A l)(hhi:hi≤w.heap.size)(hr':RdT w lo' hi' B P)(hhi':hi'≤w.heap.size)
 (hP:∀x∈P,x.size<32) (hn':P.length≤2000000) (hcb:P.length≤cb) (hs:SmF l) (hn:l.length≤2000000) :
 Calls Tryz.prog 106 #[.slice A l.length ca,.slice B P.length cb] w fun e w'=>∃v,e=.returned v∧w'.ownsRow w.heap.size 2 1 v (occL P (l.map Fm.p)).length ((occL P (l.map Fm.p)).flatMap intCells)∧Up w w':=by
 have hu0:=(Up.alloc w (.cells #[.slice A l.length ca] 61)).allocs (.cells #[.slice B P.length cb] 29)
 have c2:((w.alloc (.cells #[.slice A l.length ca] 61)).alloc (.cells #[.slice B P.length cb] 29)).cell? ⟨w.heap.size,0,none⟩=some (.slice A l.length ca):=by simp
 have c1:((w.alloc (.cells #[.slice A l.length ca] 61)).alloc (.cells #[.slice B P.length cb] 29)).cell? ⟨w.heap.size+1,0,none⟩=some (.slice B P.length cb):=by simp
 have hpw:=placesWith_any l.length 153 #[.pointer (some ⟨w.heap.size+1,0,none⟩),.pointer (some ⟨w.heap.size,0,none⟩)] (occB P (l.map Fm.p)) _ (by omega) (fun _ _=>by kernel_rfl) (fun j hj w1 hu =>
  inClosure_any A B l P ca cb lo hi lo' hi' (w.heap.size+1) w.heap.size j w1 (hr.up (hu0.trans hu) hhi) (Nat.le_trans hhi (hu0.trans hu).size) (hr'.up (hu0.trans hu) hhi') (Nat.le_trans hhi' (hu0.trans hu).size) hP hn' hcb hs hn hj (hu.cell c1) (hu.cell c2))
 have HE:=qh (show occL P (l.map Fm.p)=pl (occB P (l.map Fm.p)) l.length by simp[occL])
 have HPW:=qh hpw
 have hmf:∀(fn:Fn) (first cap:Array Value) (w:World),(Instr.makeFunc fn first cap).run Tryz.prog w=.ok (.func fn first cap) w:=fun _ _ _ _=>rfl
 clear hpw c1 hP hs;go_enter Tryz.func106,Tryz.ntmps106
 go_wp2_with fail
 refine HPW.out.mono ?_
 rintro e w3 ⟨v,rfl,ho,hup3⟩
 have HO:=qh (own_base ho hu0.size)
 clear ho;go_wp2;go_ret;exact⟨v,rfl,by rw[HE.out];exact HO.out,hu0.trans hup3⟩
end Go.Proofs.YtaoplcclemckjaaGreatDoor
