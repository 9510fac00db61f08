/- Which sources are doubted: plain. -/
import Derived.Test.YtihcmhmanfobcaaGreatDoorPi
import Derived.Test.YtihcmhmanfobcaaGreatDoorCs
import Derived.Maps.AppendAt
import Derived.Test.YtihcmhmanfobcaaGreatDoorDel
import Derived.Deep.RegionHeld3
set_option maxHeartbeats 16000000
set_option maxRecDepth 100000
namespace Go.Proofs.YtihcmhmanfobcaaGreatDoor
open Go.RowKit Go.Sort
def mbs(s:Nat):List Int:=((List.range 5).filter fun i=>s.testBit i).map fun(i:Nat)=>(i:Int)
def lxB:List Int→List Int→Bool
 | x :: a,y :: b=>if x=y then lxB a b else decide (x<y)
 | _,_=>false
def btB(a b:List Int):Bool:=if a.length=b.length then lxB a b else decide (a.length<b.length)
def cmL:List Int→List Int→Int
 | [],[]=>0
 | [],_ :: _=>-1
 | _ :: _,[]=>1
 | x :: a,y :: b=>if x=y then cmL a b else if x<y then -1 else 1
theorem cm_lx:∀(a b:List Int),a.length=b.length→decide (cmL a b<0)=lxB a b
 | [],[],_=>rfl
 | [],_ :: _,h=>by simp at h
 | _ :: _,[],h=>by simp at h
 | x :: a,y :: b,h=>by
   have ih:=cm_lx a b (by simpa using h)
   simp only[cmL,lxB]
   split
   ·exact ih
   ·split
    ·rename_i h1;simp[h1]
    ·rename_i h1;simp[h1]
def fdT:Option (List Int)→List Int→Bool
 | none,_=>true
 | some b,m=>btB m b
def fdS(ok:Nat→Bool)(o:Option (List Int))(s:Nat):Option (List Int) :=
 if (ok s && fdT o (mbs s))=true then some (mbs s) else o
def fwB(ok:Nat→Bool):Nat→Option (List Int)
 | 0=>none
 | k+1=>fdS ok (fwB ok k) k
theorem fwB_mbs(ok:Nat→Bool):∀k,(∀b,fwB ok k=some b→∃s,s<k∧b=mbs s)
 | 0=>fun b h=>by cases h
 | k+1=>fun b h=>by
   have h':fdS ok (fwB ok k) k=some b:=h
   by_cases hc:(ok k && fdT (fwB ok k) (mbs k))=true
   ·rw[fdS,if_pos hc]at h'
    exact⟨k,by omega,(Option.some.inj h').symm⟩
   ·rw[fdS,if_neg hc]at h'
    obtain⟨s,hs,e⟩:=fwB_mbs ok k b h'
    exact⟨s,by omega,e⟩
theorem mbs_len(s:Nat):(mbs s).length≤5:=by
 unfold mbs;rw[List.length_map]
 exact Nat.le_trans (List.length_filter_le _ _) (by simp)
noncomputable def fdK (x:Pw) (d:Pd) (s k:Nat):List Sp:=dset fun n=>inB n x.fr x.to_ && (List.range k).all fun j=>s.testBit j || srcB x d j n
theorem fdK_0{x:Pw}{d:Pd}{s:Nat}(h:WdF x):[(x.fr,x.to_)]=fdK x d s 0:=by
 rw[win_set h];exact dset_congr fun n _ _=>by simp
theorem fdK_yes{x:Pw}{d:Pd}{s k:Nat}(h:s.testBit k=true):fdK x d s (k+1)=fdK x d s k:=by
 refine dset_congr fun n _ _=>?_
 rw[List.range_succ,List.all_append];simp[h]
theorem fdK_no{x:Pw}{d:Pd}{s k:Nat}(h:s.testBit k=false):metL (fdK x d s k) (srcS x d k)=fdK x d s (k+1):=by
 unfold fdK srcS
 rw[metL_dset];refine dset_congr fun n _ _=>?_
 rw[List.range_succ,List.all_append];simp only[List.all_cons,List.all_nil,Bool.and_true,h,Bool.false_or]
 cases inB n x.fr x.to_<;>simp
theorem fdK_len{x:Pw}{d:Pd}{s k:Nat}(h:WdF x):(fdK x d s k).length≤10001:=win_len h.le h.win
noncomputable def fdOk (x:Pw) (d:Pd) (s:Nat):Bool:=decide (0<(fdK x d s 5).length)
theorem fold_dset(p:Nat→Int→Bool)(a:Int→Bool):∀L:List Nat,(L.map fun j=>dset (p j)).foldl metL (dset a)=dset fun n=>a n && L.all fun j=>p j n
 | []=>dset_congr fun n _ _=>by simp
 | j :: L=>by
   simp only[List.map_cons,List.foldl_cons]
   rw[metL_dset,fold_dset p _ L];refine dset_congr fun n _ _=>?_
   simp[List.all_cons,Bool.and_assoc]
def fdX(s k:Nat):List Nat:=(List.range k).filter fun j=>!s.testBit j
theorem fdX_s(s k:Nat):fdX s (k+1)=if s.testBit k=true then fdX s k else fdX s k++[k]:=by
 unfold fdX;rw[List.range_succ,List.filter_append]
 by_cases h:s.testBit k=true
 ·simp[h]
 ·simp[h]
theorem fd_met{x:Pw}{d:Pd}{s:Nat}(h:WdF x)(hs:s<32):decide (0<(mtF ((fdX s 5).map (srcS x d))).length)=fdOk x d s:=by
 have e:mtF ((fdX s 5).map (srcS x d))=dset fun n=>(fdX s 5).all fun j=>inB n x.fr x.to_ && srcB x d j n:=by
  show((fdX s 5).map fun j=>dset fun n=>inB n x.fr x.to_ && srcB x d j n).foldl metL [(0,730499)]=_
  rw[dset_all,fold_dset (fun j n=>inB n x.fr x.to_ && srcB x d j n) (fun _=>true)]
  exact dset_congr fun n _ _=>by simp
 have hw:fdK x d 31 5≠[]:=by
  have h1:fdK x d 31 5=fdK x d 31 0:=dset_congr fun n _ _=>by
   have:((List.range 5).all fun j=>(31:Nat).testBit j || srcB x d j n)=true:=by
    rw[List.all_eq_true];intro j hj
    have hj':=List.mem_range.1 hj
    have hc:j=0∨j=1∨j=2∨j=3∨j=4:=by omega
    rcases hc with rfl|rfl|rfl|rfl|rfl<;>rfl
   rw[this];simp
  rw[h1,← fdK_0 h];simp
 unfold fdOk
 by_cases h31:s=31
 ·subst h31
  have h2:fdX 31 5=[]:=by decide
  rw[h2];have h3:0<(fdK x d 31 5).length:=List.length_pos_iff.2 hw
  rw[decide_eq_true h3];rfl
 ·have hex:∃j,j∈fdX s 5:=by
   have:∀s,s<31→∃j,j∈fdX s 5:=by
    intro s hs
    have hd:∀s:Fin 31,(fdX s.1 5)≠[]:=by decide
    obtain⟨j,hj⟩:=List.exists_mem_of_ne_nil _ (hd ⟨s,hs⟩)
    exact⟨j,hj⟩
   exact this s (by omega)
  obtain⟨j0,hj0⟩:=hex
  have e2:mtF ((fdX s 5).map (srcS x d))=fdK x d s 5:=by
   rw[e];refine dset_congr fun n _ _=>?_
   rw[Bool.eq_iff_iff,List.all_eq_true,Bool.and_eq_true,List.all_eq_true];constructor
   ·intro hall
    have h0:=hall j0 hj0
    rw[Bool.and_eq_true]at h0;refine⟨h0.1,fun j hj=>?_⟩
    by_cases ht:s.testBit j=true
    ·simp[ht]
    ·have:=hall j (List.mem_filter.2 ⟨hj,by simp[ht]⟩)
     rw[Bool.and_eq_true]at this;simp[this.2]
   ·rintro⟨h1,h2⟩ j hj
    obtain⟨hj1,hj2⟩:=List.mem_filter.1 hj
    have:=h2 j hj1
    have ht:s.testBit j=false:=by simpa using hj2
    rw[ht,Bool.false_or]at this;rw[h1,this];rfl
  rw[e2]
noncomputable def fdR (x:Pw) (ds:List Pd) (fs:List Fm) (q:List (Sl ByteArray)) (i:Int):List Int × Int :=
 if evC x ds fs q i=0 then(match ds[i.toNat]? with|some d=>((fwB (fdOk x d) 32).getD [],0)|none=>([],0)) else([],evC x ds fs q i)
theorem cmL_drop{l m:List Int}{k:Nat}{x y:Int}(hl:l[k]?=some x)(hm:m[k]?=some y):cmL (l.drop k) (m.drop k)=if x=y then cmL (l.drop (k+1)) (m.drop (k+1)) else if x<y then -1 else 1:=by
 obtain⟨h1,h2⟩:=List.getElem?_eq_some_iff.1 hl
 obtain⟨h3,h4⟩:=List.getElem?_eq_some_iff.1 hm
 rw[List.drop_eq_getElem_cons h1,List.drop_eq_getElem_cons h3,h2,h4];rfl
theorem cmL_more{l m:List Int}{k:Nat}(hl:k<l.length)(hm:m.length≤k):cmL (l.drop k) (m.drop k)=1:=by
 rw[List.drop_eq_getElem_cons hl,List.drop_eq_nil_of_le hm];rfl
theorem cmL_less{l m:List Int}{k:Nat}(hl:l.length≤k)(hm:k<m.length):cmL (l.drop k) (m.drop k)=-1:=by
 rw[List.drop_eq_nil_of_le hl,List.drop_eq_getElem_cons hm];rfl
theorem cmL_end{l m:List Int}{k:Nat}(hl:l.length≤k)(hm:m.length≤k):cmL (l.drop k) (m.drop k)=0:=by
 rw[List.drop_eq_nil_of_le hl,List.drop_eq_nil_of_le hm];rfl
theorem compareL_any(A B:Option Addr)(l m:List Int)(c c' lo hi lo' hi':Nat)(w:World)(hr:RdI w lo hi A l)(hr':RdI w lo' hi' B m)(hn:l.length≤2000000)(_hn':m.length≤2000000) :
 Calls Tryz.prog 31 #[.slice A l.length c,.slice B m.length c'] w fun e w'=>e=.returned (.int .i64 (cmL l m))∧w=w':=by
 go_enter Tryz.func31,Tryz.ntmps31
 go_wp2;go_loop [5,6,7,8,11] (fun _ _ _ _ i=>∃k:Nat,k≤l.length∧k≤m.length∧i=.int .i64 k∧Hid (cmL l m=cmL (l.drop k) (m.drop k))) (fun _ _ _ _ i=>l.length-(intOf i).toNat)
 case atStart=>exact⟨0,Nat.zero_le _,Nat.zero_le _,rfl,qh rfl⟩
 case round =>
  obtain⟨k,hk,hk',rfl,HK⟩:=hrel
  by_cases hlt:k<l.length
  ·obtain⟨b,off,x,rfl,-,-,hx,q0⟩:=hr.int hlt
   have HX:=qh hx
   clear hx;by_cases hlm:k<m.length
   ·obtain⟨b',off',y,rfl,-,-,hy,q1⟩:=hr'.int hlm
    have HS:=qh (cmL_drop HX.out hy)
    clear hy;obtain⟨z,hz⟩:∃z,z=cmpZ x y:=⟨_,rfl⟩
    have cc:=fun wx=>compareI_any x y wx
    rw[← hz]at cc;have CC:=qh cc
    clear cc;by_cases hxy:x=y
    ·have HZ:z=0:=by rw[hz,hxy];simp[cmpZ]
     have HK2:=qh (show cmL l m=cmL (l.drop (k+1)) (m.drop (k+1)) by rw[HK.out,HS.out,if_pos hxy])
     subst HZ;clear hz hxy;go_wp2_with (go_at_call 68;refine(CC.out _).mono ?_;rintro e w' ⟨rfl,rfl⟩)
     go_round
     case rel=>exact⟨k+1,by omega,by omega,by go_num,HK2⟩
     case measure=>simp[intOf];omega
    ·have HZ:(z != 0)=true∧z=cmL l m:=by
      rw[HK.out,HS.out,if_neg hxy,hz];unfold cmpZ
      by_cases hlt2:x<y
      ·simp[hlt2]
      ·have:y<x:=by omega
       simp[hlt2,this]
     have hz1:=HZ.1
     have HE:=qh HZ.2
     clear HZ hz hxy;go_wp2_with (go_at_call 68;refine(CC.out _).mono ?_;rintro e w' ⟨rfl,rfl⟩)
     go_ret;exact⟨ret_int HE.out,rfl⟩
   ·have HE:=qh (show(1:Int)=cmL l m by rw[HK.out,cmL_more hlt (by omega)])
    go_wp2;go_ret;exact⟨ret_int HE.out,rfl⟩
  ·by_cases hlm:k<m.length
   ·have HE:=qh (show(-1:Int)=cmL l m by rw[HK.out,cmL_less (by omega) hlm])
    have hll:(l.length:Int)<(m.length:Int):=by omega
    have hln:l.length<m.length:=by omega
    go_wp2;go_ret;exact⟨ret_int HE.out,rfl⟩
   ·have HE:=qh (show(0:Int)=cmL l m by rw[HK.out,cmL_end (by omega) (by omega)])
    have hll:¬ (l.length:Int)<(m.length:Int):=by omega
    have hln:¬ l.length<m.length:=by omega
    go_wp2;go_ret;exact⟨ret_int HE.out,rfl⟩
def mbK(s k:Nat):List Int:=((List.range k).filter fun i=>s.testBit i).map fun(i:Nat)=>(i:Int)
theorem mbK_s(s k:Nat):mbK s (k+1)=if s.testBit k=true then mbK s k++[(k:Int)] else mbK s k:=by
 unfold mbK;rw[List.range_succ,List.filter_append]
 by_cases h:s.testBit k=true
 ·simp[h]
 ·simp[h]
theorem mbK_len(s k:Nat):(mbK s k).length≤k:=by
 unfold mbK;rw[List.length_map]
 exact Nat.le_trans (List.length_filter_le _ _) (by simp)
theorem mbs_bits{s:Nat}(h:s<32):mbK s (Lib.bitLen s)=mbs s∧Lib.bitLen s≤5:=by
 have:∀s:Fin 32,mbK s.1 (Lib.bitLen s.1)=mbs s.1∧Lib.bitLen s.1≤5:=by decide
 exact this ⟨s,h⟩
theorem and_bit(s k:Nat)(hs:s<32):bits .and .u64 ((s:Int)/2 ^ k) 1=if s.testBit k=true then 1 else 0:=by
 have e:(s:Int)/2 ^ k=((s/2 ^ k:Nat):Int):=by simp
 have hd:s/2 ^ k≤s:=Nat.div_le_self _ _
 have h1:((s/2 ^ k:Nat):Int)≤31:=by have:s/2 ^ k≤31:=by omega
                                    exact_mod_cast this
 rw[e,and_one_u64 _ (Int.natCast_nonneg _) (by omega),Nat.testBit_eq_decide_div_mod_eq]
 by_cases h:s/2 ^ k % 2=1
 ·rw[if_pos (by simpa using h)];omega
 ·rw[if_neg (by simpa using h)];omega
theorem and_bit2(s k:Nat)(hs:s<32):bits .and .u64 ((s:Int)/2 ^ ((k:Int)).toNat) 1=if s.testBit k=true then 1 else 0:=by rw[Int.toNat_natCast];exact and_bit s k hs
theorem mbK_at{s k:Nat}{h:s.testBit k=true}:(mbK s (k+1)).flatMap intCells=(mbK s k).flatMap intCells++[.int .i64 (k:Int)]:=by rw[mbK_s,if_pos h,List.flatMap_append];rfl
theorem bitsOf_any(s:Nat)(w:World)(hs:s<32) :
 Calls Tryz.prog 29 #[.int .u64 (s:Int)] w fun e w'=>∃a c,e=.returned (.slice (some a) (mbs s).length c)∧w'.ownsRow w.heap.size 2 1 (.slice (some a) (mbs s).length c) (mbs s).length ((mbs s).flatMap intCells)∧Up w w':=by
 obtain⟨i0,hi0,hz0,hz1,hz2⟩:=info_parts infoIntP
 have hB:=mbs_bits hs
 have cl:=fun wx=>Tryz.bits_Len (s:Int) wx (by omega) (by omega)
 obtain⟨n,hn⟩:∃n,n=Lib.bitLen s:=⟨_,rfl⟩
 simp only[Int.toNat_natCast,← hn]at cl
 rw[← hn]at hB;have HB:=qh hB.1
 have hn5:n≤5:=hB.2
 have CL:=qh cl
 clear hB cl hn;go_enter Tryz.func29,Tryz.ntmps29
 go_wp2_with fail
 have hown0:=World.ownsRow_lit (base:=w.heap.size) (e:=2) (size:=1) w #[] 0 (Nat.le_refl _) (by simp[maxLen]) rfl
 have hup0:=(Up.refl w).allocs (.cells #[] 2)
 obtain⟨v0,hv0⟩:∃v,v=Value.slice (some ⟨w.heap.size,0,none⟩) 0 0:=⟨_,rfl⟩
 have hs0:∃a c,v0=.slice (some a) 0 c:=⟨_,_,hv0⟩
 rw[← hv0]at hown0 ⊢
 generalize w.alloc (.cells #[] 2)=w2 at *
 clear hv0;refine(CL.out w2).mono ?_
 rintro e w3 ⟨rfl,rfl⟩
 go_wp2_with fail
 go_loopw [3,4,8] (fun o _ i wr=>∃k:Nat,k≤n∧i=.int .i64 k∧(∃a c,o=.slice (some a) (mbK s k).length c)∧wr.ownsRow w.heap.size 2 1 o (mbK s k).length ((mbK s k).flatMap intCells)∧Up w wr) (fun _ _ i _=>n-(intOf i).toNat)
 case atStart=>exact⟨0,Nat.zero_le _,rfl,hs0,hown0,hup0⟩
 case round =>
  clear hs0 hown0 hup0;obtain⟨k,hk,rfl,⟨a,c,rfl⟩,hown,hup⟩:=hrel
  have hlen:=mbK_len s k
  by_cases hlt:k<n
  ·have hb1:=and_bit s k hs
   have hb2:=and_bit2 s k hs
   by_cases hp:s.testBit k=true
   ·rw[if_pos hp]at hb1 hb2
    have HS:=qh (mbK_at (h:=hp))
    have HL:=qh (show(mbK s (k+1)).length=(mbK s k).length+1 by rw[mbK_s,if_pos hp,List.length_append];rfl)
    clear hp;have n1:(mbK s k).length+1≤maxLen:=by unfold maxLen;omega
    have n2:((mbK s k).length+1)*8≤140737488355328:=by omega
    have n3:w.heap.size≤(wr.alloc (.cells #[.int .i64 (k:Int)] 2)).heap.size:=(hup.allocs _).size
    go_wp2_with ((at_builtin;refine wpList_append_own _ rfl _ _ 43 rfl w.heap.size 2 i0 _ 1 8 Tryz.underlying43 hi0 hz0 hz1 hz2 rfl (by decide) _ _ _ rfl (hown.alloc _) ⟨wr.heap.size,0,none⟩ 1 1 [.int .i64 (k:Int)] rfl rfl (cell_one_new _ _ _) (by simp[Value.oneCell']) n1 n2 n3 ?_))
    intro v' w4 hown' hgrow _
    have hu:=(hup.allocs (.cells #[.int .i64 (k:Int)] 2)).grown hgrow (fun k hk=>(hown.lt k hk).1)
    obtain⟨A',c',rfl,-,-,hA,-⟩:=own_form hown'
    obtain⟨g,rfl,-,-⟩:=hA (by omega)
    clear hown hgrow hA;have HO:=qh (show w4.ownsRow w.heap.size 2 1 (.slice (some ⟨g,0,none⟩) (mbK s (k+1)).length c') (mbK s (k+1)).length ((mbK s (k+1)).flatMap intCells) by rw[HS.out,HL.out];exact hown')
    clear hown';go_wp2;go_roundw
    case rel=>exact⟨k+1,by omega,by go_num,⟨_,c',by rw[HL.out]⟩,by(have:=HO.out;rw[HL.out]at this ⊢;exact this),hu⟩
    case measure=>simp[intOf];omega
   ·rw[if_neg hp]at hb1 hb2
    have HS:=qh (show mbK s (k+1)=mbK s k by rw[mbK_s,if_neg hp])
    clear hp;go_wp2;go_roundw
    case rel=>exact⟨k+1,by omega,by go_num,⟨a,c,by rw[HS.out]⟩,by rw[HS.out];exact hown,hup⟩
    case measure=>simp[intOf];omega
  ·obtain rfl:k=n:=by omega
   rw[HB.out]at hown ⊢
   go_wp2;go_ret;exact⟨a,c,rfl,hown,hup⟩
def BsV(w:World)(base:Nat)(v:Value):Option (List Int)→Prop
 | none=>v=.slice none 0 0
 | some b=>∃a c,v=.slice (some a) b.length c∧w.ownsRow base 2 1 v b.length (b.flatMap intCells)
theorem BsV.up{w w':World}{base:Nat}{v:Value}:∀{o:Option (List Int)},BsV w base v o→Up w w'→BsV w' base v o
 | none,h,_=>h
 | some _,⟨a,c,e,ho⟩,u=>⟨a,c,e,own_up ho u⟩
theorem implFewestDoubts_any(x:Wd)(s:Sl Dd)(g:Sl Fm)(q:Sl (Sl ByteArray))(i:Int)(lo hi:Nat)(w:World)(h:RdW w lo hi x)(h2:RdDd w lo hi s)(h3:SrF w lo hi g)(h4:SrPh w lo hi q) :
 Calls Tryz.prog 7 #[.agg #[.slice x.rs.A x.rs.l.length x.rs.c,.int .i64 x.fr,.int .i64 x.to_,.slice x.ps.A x.ps.l.length x.ps.c,.slice x.ts.A x.ts.l.length x.ts.c,.slice x.pl.A x.pl.l.length x.pl.c,.slice x.ws.A x.ws.l.length x.ws.c,.slice x.st.A x.st.l.length x.st.c,.slice x.se.A x.se.l.length x.se.c,.slice x.ha.A x.ha.l.length x.ha.c,.slice s.A s.l.length s.c,.slice g.A g.l.length g.c,.slice q.A q.l.length q.c],.int .i64 i] w fun e w'=>∃v,e=.returned (.tuple #[v,.int .i64 (fdR x.p (s.l.map Dd.p) g.l q.l i).2])∧w'.ownsRow w.heap.size 2 1 v (fdR x.p (s.l.map Dd.p) g.l q.l i).1.length ((fdR x.p (s.l.map Dd.p) g.l q.l i).1.flatMap intCells)∧Up w w':=by
 have u:=Up.alloc w (.cells #[.slice x.rs.A x.rs.l.length x.rs.c,.int .i64 x.fr,.int .i64 x.to_,.slice x.ps.A x.ps.l.length x.ps.c,.slice x.ts.A x.ts.l.length x.ts.c,.slice x.pl.A x.pl.l.length x.pl.c,.slice x.ws.A x.ws.l.length x.ws.c,.slice x.st.A x.st.l.length x.st.c,.slice x.se.A x.se.l.length x.se.c,.slice x.ha.A x.ha.l.length x.ha.c,.slice s.A s.l.length s.c,.slice g.A g.l.length g.c,.slice q.A q.l.length q.c] 63)
 have hA:=Bx.new w #[.slice x.rs.A x.rs.l.length x.rs.c,.int .i64 x.fr,.int .i64 x.to_,.slice x.ps.A x.ps.l.length x.ps.c,.slice x.ts.A x.ts.l.length x.ts.c,.slice x.pl.A x.pl.l.length x.pl.c,.slice x.ws.A x.ws.l.length x.ws.c,.slice x.st.A x.st.l.length x.st.c,.slice x.se.A x.se.l.length x.se.c,.slice x.ha.A x.ha.l.length x.ha.c,.slice s.A s.l.length s.c,.slice g.A g.l.length g.c,.slice q.A q.l.length q.c] 63
 have CC:=qh (fun(wx:World) (v:Up w wx)=>checkEvidence_any x s g q i lo hi wx (h.up v) (h2.up v) (h3.up v) (h4.up v))
 by_cases hc:evC x.p (s.l.map Dd.p) g.l q.l i=0
 ·obtain⟨hev,hi0,hi1⟩:=evC_ok hc
  have ef:=EvG.of hev
  rw[List.length_map]at hi1;obtain⟨i,rfl⟩:∃k:Nat,i=k:=⟨i.toNat,by omega⟩
  have hil:i<s.l.length:=by omega
  have hsd:s.l[i]?=some (s.l[i]'hil):=List.getElem?_eq_getElem hil
  obtain⟨d,hde⟩:∃d,d=s.l[i]'hil:=⟨_,rfl⟩
  rw[← hde]at hsd;clear hde;have hre:=h2.each d (List.mem_of_getElem? hsd)
  have hdd:=ef.dd _ (List.mem_map_of_mem (List.mem_of_getElem? hsd))
  have HR:=qh (show fdR x.p (s.l.map Dd.p) g.l q.l (i:Int)=((fwB (fdOk x.p d.p) 32).getD [],0) by
   unfold fdR;rw[if_pos hc,Int.toNat_natCast,List.getElem?_map,hsd];rfl)
  have CS:=qh (fun(wx:World) (v:Up w wx)=>allSources_any x d lo hi lo hi wx (h.up v) (hre.up v) ef.wd hdd ef.ne)
  have HM:=qh (fun(k:Nat) (hk:k<32)=>fd_met (x:=x.p) (d:=d.p) (s:=k) ef.wd hk)
  have HSL:=qh (fun k=>src_len (d:=d.p) (k:=k) ef.wd)
  rw[hc]at CC;obtain⟨b,off,d',hsA,-,-,hd',q0,q1,q2,q3,q4,q5,q6⟩:=(h2.rd.up u h2.hhi).dd hil
  rw[hsd]at hd';cases hd'
  have hs2:s.l.length≤2000000:=h2.len
  rw[HR.out];obtain⟨P,hP⟩:∃P,P=d.p:=⟨_,rfl⟩
  rw[← hP]at CS HM HSL ⊢
  obtain⟨ok,hok⟩:∃f,f=fdOk x.p P:=⟨_,rfl⟩
  rw[← hok]at HM ⊢
  have HB:=qh (fwB_mbs ok)
  clear hP hok hsd hev ef hc h h2 h3 h4 HR hi1 hre hdd;obtain⟨SA,sc,sl⟩:=s
  obtain⟨dnm,dda,dwi,dpl,dse,dha,dci⟩:=d
  simp only[]at *;subst hsA;go_enter Tryz.func7,Tryz.ntmps7
  go_wp2_with fail
  generalize w.alloc (.cells #[.slice x.rs.A x.rs.l.length x.rs.c,.int .i64 x.fr,.int .i64 x.to_,.slice x.ps.A x.ps.l.length x.ps.c,.slice x.ts.A x.ts.l.length x.ts.c,.slice x.pl.A x.pl.l.length x.pl.c,.slice x.ws.A x.ws.l.length x.ws.c,.slice x.st.A x.st.l.length x.st.c,.slice x.se.A x.se.l.length x.se.c,.slice x.ha.A x.ha.l.length x.ha.c,.slice (some ⟨b,off,none⟩) sl.length sc,.slice g.A g.l.length g.c,.slice q.A q.l.length q.c] 63)=X at *
  refine(CC.out _ u).mono ?_
  rintro e w1 ⟨rfl,v⟩
  replace hA:=hA.up v;replace u:=u.trans v;replace q0:=v.cell q0;replace q1:=v.cell q1;replace q2:=v.cell q2;replace q3:=v.cell q3;replace q4:=v.cell q4;replace q5:=v.cell q5;replace q6:=v.cell q6;clear v CC;obtain⟨x0,x1,x2,x3,x4,x5,x6,x7,x8,x9,x10,x11,x12⟩:=hA.c13
  go_wp2_with fail
  have KP:∀w':World,Up w1 w'→(Up w1 w'∧w'.cell? ⟨w.heap.size,0,none⟩=some (.slice x.rs.A x.rs.l.length x.rs.c)∧w'.cell? ⟨w.heap.size,1,none⟩=some (.int .i64 x.fr)∧w'.cell? ⟨w.heap.size,2,none⟩=some (.int .i64 x.to_)∧w'.cell? ⟨w.heap.size,3,none⟩=some (.slice x.ps.A x.ps.l.length x.ps.c)∧w'.cell? ⟨w.heap.size,4,none⟩=some (.slice x.ts.A x.ts.l.length x.ts.c)∧w'.cell? ⟨w.heap.size,5,none⟩=some (.slice x.pl.A x.pl.l.length x.pl.c)∧w'.cell? ⟨w.heap.size,6,none⟩=some (.slice x.ws.A x.ws.l.length x.ws.c)∧w'.cell? ⟨w.heap.size,7,none⟩=some (.slice x.st.A x.st.l.length x.st.c)∧w'.cell? ⟨w.heap.size,8,none⟩=some (.slice x.se.A x.se.l.length x.se.c)∧w'.cell? ⟨w.heap.size,9,none⟩=some (.slice x.ha.A x.ha.l.length x.ha.c)∧w'.cell? ⟨w.heap.size,10,none⟩=some (.slice (some ⟨b,off,none⟩) sl.length sc)∧w'.cell? ⟨w.heap.size,11,none⟩=some (.slice g.A g.l.length g.c)∧w'.cell? ⟨w.heap.size,12,none⟩=some (.slice q.A q.l.length q.c)∧w'.cell? ⟨b,off+i*7,none⟩=some (.string dnm)∧w'.cell? ⟨b,off+i*7+1,none⟩=some (.slice dda.A dda.l.length dda.c)∧w'.cell? ⟨b,off+i*7+2,none⟩=some (.slice dwi.A dwi.l.length dwi.c)∧w'.cell? ⟨b,off+i*7+3,none⟩=some (.string dpl)∧w'.cell? ⟨b,off+i*7+4,none⟩=some (.string dse)∧w'.cell? ⟨b,off+i*7+5,none⟩=some (.string dha)∧w'.cell? ⟨b,off+i*7+6,none⟩=some (.slice dci.A dci.l.length dci.c)):=fun w' v=>⟨v,v.cell x0,v.cell x1,v.cell x2,v.cell x3,v.cell x4,v.cell x5,v.cell x6,v.cell x7,v.cell x8,v.cell x9,v.cell x10,v.cell x11,v.cell x12,v.cell q0,v.cell q1,v.cell q2,v.cell q3,v.cell q4,v.cell q5,v.cell q6⟩
  have hXr:Up w1 w1:=Up.refl _
  have hXd:Up w1 w1.drew:=(Up.refl _).drew
  go_region_held3 (fun w'=>Up w1 w'∧w'.cell? ⟨w.heap.size,0,none⟩=some (.slice x.rs.A x.rs.l.length x.rs.c)∧w'.cell? ⟨w.heap.size,1,none⟩=some (.int .i64 x.fr)∧w'.cell? ⟨w.heap.size,2,none⟩=some (.int .i64 x.to_)∧w'.cell? ⟨w.heap.size,3,none⟩=some (.slice x.ps.A x.ps.l.length x.ps.c)∧w'.cell? ⟨w.heap.size,4,none⟩=some (.slice x.ts.A x.ts.l.length x.ts.c)∧w'.cell? ⟨w.heap.size,5,none⟩=some (.slice x.pl.A x.pl.l.length x.pl.c)∧w'.cell? ⟨w.heap.size,6,none⟩=some (.slice x.ws.A x.ws.l.length x.ws.c)∧w'.cell? ⟨w.heap.size,7,none⟩=some (.slice x.st.A x.st.l.length x.st.c)∧w'.cell? ⟨w.heap.size,8,none⟩=some (.slice x.se.A x.se.l.length x.se.c)∧w'.cell? ⟨w.heap.size,9,none⟩=some (.slice x.ha.A x.ha.l.length x.ha.c)∧w'.cell? ⟨w.heap.size,10,none⟩=some (.slice (some ⟨b,off,none⟩) sl.length sc)∧w'.cell? ⟨w.heap.size,11,none⟩=some (.slice g.A g.l.length g.c)∧w'.cell? ⟨w.heap.size,12,none⟩=some (.slice q.A q.l.length q.c)∧w'.cell? ⟨b,off+i*7,none⟩=some (.string dnm)∧w'.cell? ⟨b,off+i*7+1,none⟩=some (.slice dda.A dda.l.length dda.c)∧w'.cell? ⟨b,off+i*7+2,none⟩=some (.slice dwi.A dwi.l.length dwi.c)∧w'.cell? ⟨b,off+i*7+3,none⟩=some (.string dpl)∧w'.cell? ⟨b,off+i*7+4,none⟩=some (.string dse)∧w'.cell? ⟨b,off+i*7+5,none⟩=some (.string dha)∧w'.cell? ⟨b,off+i*7+6,none⟩=some (.slice dci.A dci.l.length dci.c))
   ((refine KP _ ?_;first|exact Up.refl _|exact(Up.refl _).drew|assumption|exact Up.drew (by assumption)))
   (first
     |(go_at_call 28
       (with_reducible refine(CS.out _ (u.trans (by assumption))).mono ?_)
       rintro e w4 ⟨o4,L,rfl,hL,ho,v1⟩
       have V1:Up w1 w4:=Up.trans (by assumption) v1
       obtain⟨A4,c4,rfl,hc4,hm4⟩:=rwL_form ho
       have U4:Up w4 w4:=Up.refl _
       have U4d:Up w4 w4.drew:=(Up.refl _).drew))
  have U:=u.trans V1
  have hL5:L.length=5:=by have:=congrArg List.length hL;simpa using this
  have HRD:=qh (show ∃lo,Rd w4 lo w4.heap.size 1 slC A4 L from⟨_,Rd.own slC_len (base:=_) (e:=76) (c:=c4) ho.hd⟩)
  have HRE:=qh (show ∀s∈L,∃a,RdP w4 a w4.heap.size s.A s.l from fun s hs=>⟨_,Rd.own spC_len (base:=_) (e:=84) (c:=s.c) (ho.each (rwSp s) (List.mem_cons_of_mem _ (List.mem_map_of_mem hs)))⟩)
  have HLE:=qh (show ∀s∈L,s.l.length≤10001 from fun s hs=>by
   have:s.l∈L.map (·.l):=List.mem_map_of_mem hs
   rw[hL]at this;obtain⟨k,-,hk⟩:=List.mem_map.1 this
   rw[← hk];exact HSL.out k)
  have HLK:=qh (show ∀(k:Nat) (m:Sl Sp),L[k]?=some m→m.l=srcS x.p P k from fun k m hm=>by
   have h1:(L.map (·.l))[k]?=some m.l:=by rw[List.getElem?_map,hm];rfl
   rw[hL,List.getElem?_map]at h1;rcases hr:(List.range 5)[k]? with _|z
   ·rw[hr]at h1;cases h1
   ·rw[hr]at h1
    have hz:=List.getElem?_eq_some_iff.1 hr
    have:z=k:=by have:=hz.2;simpa using this.symm
    rw[← this];exact(Option.some.inj h1).symm)
  have HL5:=qh hL5
  rw[hL5];clear hL ho V1 v1 U4 U4d hXr hXd KP x0 x1 x2 x3 x4 x5 x6 x7 x8 x9 x10 x11 x12 q0 q1 q2 q3 q4 q5 q6 hA u CS HSL hc4 hm4;obtain⟨Sr,hSr⟩:∃f,f=srcS x.p P:=⟨_,rfl⟩
  rw[← hSr]at HLK HM;clear hSr;obtain⟨i0,hI0,hz0,hz1,hz2⟩:=info_parts infoSlSp
  have hq0:∀wx,(binOp .eql 43 (.slice none 0 0) (.slice none 0 0)).run Tryz.prog wx=.ok (.bool true) wx:=fun wx=>Lib.run_eql_slice_nil wx _ _ none 0 0 0 0 Tryz.underlying43
  go_wp2_with fail
  go_loopw [8,9,10,11,12,13,31] (fun t8 _ _ _ _ _ t31 wr=>∃k:Nat,k≤32∧t31=.int .u64 k∧BsV wr w4.heap.size t8 (fwB ok k)∧Up w4 wr) (fun _ _ _ _ _ _ t31 _=>32-(intOf t31).toNat)
  case atStart=>exact⟨0,by omega,rfl,rfl,Up.refl _⟩
  case round =>
   rename World=>wo
   obtain⟨k,hk,rfl,hbs,hup⟩:=hrel
   by_cases hlt:k<32
   ·have HMK:=qh (HM.out k hlt)
    have hd32:decide ((k:Int)<32)=true:=decide_eq_true (by omega)
    go_wp2_with fail
    have hown0:=World.ownsRow_lit (base:=wo.heap.size) (e:=76) (size:=1) wo #[] 0 (Nat.le_refl _) (by simp[maxLen]) rfl
    have hup0:=(Up.refl wo).allocs (.cells #[] 76)
    obtain⟨v0,hv0⟩:∃v,v=Value.slice (some ⟨wo.heap.size,0,none⟩) 0 0:=⟨_,rfl⟩
    rw[← hv0]at hown0 ⊢
    generalize wo.alloc (.cells #[] 76)=w2 at *
    clear hv0;go_loopw [10,11,12,37] (fun t10 _ _ t37 wi=>∃(j:Nat) (M:List (Sl Sp)),j≤5∧t37=.int .i64 j∧M.length≤j∧Hid (M.map (·.l)=(fdX k j).map Sr)∧Hid (∀m∈M,m∈L)∧wi.ownsRow wo.heap.size 76 1 t10 M.length (M.flatMap slC)∧Up wo wi) (fun _ _ _ t37 _=>5-(intOf t37).toNat)
    case atStart=>exact⟨0,[],by omega,rfl,by simp,qh rfl,qh (by simp),hown0,hup0⟩
    case round =>
     clear hown0 hup0;obtain⟨j,M,hj,rfl,hMj,HMm,HMl,hown,hui⟩:=hrel
     obtain⟨Ao,co,rfl,hco,hcm,-,-⟩:=own_form hown
     by_cases hjt:j<5
     ·obtain⟨lo4,rd4⟩:=HRD.out
      obtain⟨b4,off4,m,rfl,-,-,hm,c0⟩:=((rd4.up hup (Nat.le_refl _)).up hui hup.size).sl (k:=j) (by rw[HL5.out];exact hjt)
      have HSR:=qh (HLK.out j m hm)
      have HIN:=qh (List.mem_of_getElem? hm)
      have hb1:=and_bit k j hlt
      have hb2:=and_bit2 k j hlt
      have HX:=qh (fdX_s k j)
      clear rd4 hm;obtain⟨mA,mc,ml⟩:=m
      simp only[]at *;by_cases hp:k.testBit j=true
      ·rw[if_pos hp]at hb1 hb2 HX
       clear hp;go_wp2;go_roundw
       case rel=>exact⟨j+1,M,by omega,by go_num,by omega,qh (by rw[HX.out];exact HMm.out),HMl,hown,hui⟩
       case measure=>simp[intOf];omega
      ·rw[if_neg hp]at hb1 hb2 HX
       clear hp;have n1:M.length+1≤maxLen:=by unfold maxLen;omega
       have n2:(M.length+1)*24≤140737488355328:=by omega
       have n3:wo.heap.size≤(wr.alloc (.cells #[.slice mA ml.length mc] 76)).heap.size:=(hui.allocs _).size
       go_wp2_with ((at_builtin;refine wpList_append_own _ rfl _ _ 75 rfl wo.heap.size 76 i0 _ 1 24 Tryz.underlying75 hI0 hz0 hz1 hz2 rfl (by decide) _ _ _ rfl (hown.alloc _) ⟨wr.heap.size,0,none⟩ 1 1 [.slice mA ml.length mc] rfl rfl (cell_one_new _ _ _) (by simp[Value.oneCell']) n1 n2 n3 ?_))
       intro v' w5 hown' hgrow _
       have hu:=(hui.allocs (.cells #[.slice mA ml.length mc] 76)).grown hgrow (fun k hk=>(hown.lt k hk).1)
       have HO:=qh (show w5.ownsRow wo.heap.size 76 1 v' (M++[(⟨mA,mc,ml⟩:Sl Sp)]).length ((M++[(⟨mA,mc,ml⟩:Sl Sp)]).flatMap slC) by simpa[slC] using hown')
       clear hown hown' hgrow;go_wp2;go_roundw
       case rel =>
        refine⟨j+1,M++[⟨mA,mc,ml⟩],by omega,by go_num,by(rw[List.length_append];show M.length+1≤j+1;omega),qh (by rw[HX.out,List.map_append,List.map_append,HMm.out];simp only[List.map_cons,List.map_nil];rw[HSR.out]),qh (fun z hz=>(List.mem_append.1 hz).elim (HMl.out z) (fun h1=>by rw[List.mem_singleton.1 h1];exact HIN.out)),?_,hu⟩
        exact HO.out
       case measure=>simp[intOf];omega
     ·obtain rfl:j=5:=by omega
      have hM5:M.length≤5:=hMj
      have HRM:=qh (show Rd wr wo.heap.size wr.heap.size 1 slC Ao M from Rd.own slC_len hown)
      have HRL:=qh (show ∀(wx:World) (_:Up wr wx),∀s∈M,∃a b,b≤wx.heap.size∧RdP wx a b s.A s.l from fun wx v s hs=>by
       obtain⟨a,ha⟩:=HRE.out s (HMl.out s hs)
       exact⟨a,w4.heap.size,Nat.le_trans (Nat.le_trans hup.size hui.size) v.size,((ha.up hup (Nat.le_refl _)).up hui hup.size).up v (Nat.le_trans hup.size hui.size)⟩)
      have HRB:=qh (show ∀s∈M,s.l.length≤10001 from fun s hs=>HLE.out s (HMl.out s hs))
      have CB:=qh (bitsOf_any k wr hlt)
      rw[HMm.out.symm]at HMK;have HFS:=qh (show fwB ok (k+1)=fdS ok (fwB ok k) k from rfl)
      have HBK:=qh (HB.out k)
      replace hbs:=hbs.up hui;have hU:=hup.trans hui
      obtain⟨fb,hfb⟩:∃z,z=fwB ok k:=⟨_,rfl⟩
      rw[← hfb]at HFS HBK hbs;obtain⟨ms,hms⟩:∃z,z=mbs k:=⟨_,rfl⟩
      have hml:ms.length≤5:=by rw[hms];exact mbs_len k
      unfold fdS at HFS
      rw[← hms]at CB HFS;clear hown hfb hms hMj HMm HMl hui hup;go_wp2_with fail
      refine CB.out.mono ?_
      rintro e w5 ⟨a5,c5,rfl,ho5,v5⟩
      have CMT:=qh (metAll_any Ao M co _ _ w5 (HRM.out.up v5 (Nat.le_refl _)) (Nat.le_trans (Nat.le_refl _) v5.size) (HRL.out w5 v5) (by omega) HRB.out)
      generalize (mtF (M.map (·.l)))=T at CMT HMK
      clear HRM HRL HRB;rcases hok:ok k with _|_
      ·rw[hok]at HMK HFS
       have hgt:¬ 0<T.length:=by have:=HMK.out;simpa using this
       have HN:=qh HFS.out
       simp only[Bool.false_and,Bool.false_eq_true,if_false]at HN
       go_wp2_with (go_at_call 30;refine CMT.out.mono ?_;rintro e w6 ⟨v6,rfl,ho6,u6⟩;(obtain⟨A6,c6,rfl,-,-,-,-⟩:=own_form ho6))
       go_roundw
       case rel=>exact⟨k+1,by omega,by go_num,by rw[HN.out];exact(hbs.up v5).up u6,(hU.trans v5).trans u6⟩
       case measure=>simp[intOf];omega
      ·rw[hok]at HMK HFS
       have hgt:0<T.length:=by have:=HMK.out;simpa using this
       have HNW:∀w6,Up w5 w6→BsV w6 w4.heap.size (.slice (some a5) ms.length c5) (some ms):=fun w6 u6=>⟨a5,c5,rfl,own_up (own_base ho5 hU.size) u6⟩
       rcases fb with _|fb
       ·have hbs':_=Value.slice none 0 0:=hbs
        subst hbs'
        have HN:=qh HFS.out
        simp only[Bool.true_and,fdT,if_true]at HN
        go_wp2_with (go_at_call 30;refine CMT.out.mono ?_;rintro e w6 ⟨v6,rfl,ho6,u6⟩;(obtain⟨A6,c6,rfl,-,-,-,-⟩:=own_form ho6))
        go_roundw
        case rel=>exact⟨k+1,by omega,by go_num,by rw[HN.out];exact HNW _ u6,(hU.trans v5).trans u6⟩
        case measure=>simp[intOf];omega
       ·obtain⟨a7,c7,rfl,ho7⟩:=hbs
        have hq1:∀wx,(binOp .eql 43 (.slice (some a7) fb.length c7) (.slice none 0 0)).run Tryz.prog wx=.ok (.bool false) wx:=fun wx=>Lib.run_eql_slice_nil wx _ _ (some a7) _ _ 0 0 Tryz.underlying43
        have hfl:fb.length≤5:=by obtain⟨z,-,e⟩:=HBK.out fb rfl;rw[e];exact mbs_len z
        have HN:=qh HFS.out
        simp only[Bool.true_and,fdT]at HN
        have HOld:∀w6,Up w5 w6→BsV w6 w4.heap.size (.slice (some a7) fb.length c7) (some fb):=fun w6 u6=>⟨a7,c7,rfl,own_up ho7 (v5.trans u6)⟩
        by_cases hll:ms.length<fb.length
        ·have hl1:decide ((ms.length:Int)<(fb.length:Int))=true:=decide_eq_true (by omega)
         have HBT:=qh (show btB ms fb=true by unfold btB;rw[if_neg (by omega)];exact decide_eq_true hll)
         rw[HBT.out,if_pos rfl]at HN;go_wp2_with (go_at_call 30;refine CMT.out.mono ?_;rintro e w6 ⟨v6,rfl,ho6,u6⟩;(obtain⟨A6,c6,rfl,-,-,-,-⟩:=own_form ho6))
         go_roundw
         case rel=>exact⟨k+1,by omega,by go_num,by rw[HN.out];exact HNW _ u6,(hU.trans v5).trans u6⟩
         case measure=>simp[intOf];omega
        ·have hl1:decide ((ms.length:Int)<(fb.length:Int))=false:=decide_eq_false (by omega)
         by_cases hle:ms.length=fb.length
         ·have HLE:=qh hle
          have CQ:=qh (fun(w6:World) (u6:Up w5 w6)=>compareL_any (some a5) (some a7) ms fb c5 c7 _ _ _ _ w6 (Rd.own int_len (own_up ho5 u6)) (Rd.own int_len (own_up ho7 (v5.trans u6))) (by omega) (by omega))
          have HBT:=qh (show btB ms fb=decide (cmL ms fb<0) by unfold btB;rw[if_pos hle];exact(cm_lx _ _ hle).symm)
          rw[HBT.out]at HN;obtain⟨cz,hcz⟩:∃z,z=cmL ms fb:=⟨_,rfl⟩
          rw[← hcz]at CQ HN;rw[← hle]at CQ HOld hq1;rw[← hle];clear hcz HBT hle hl1 hll hfl;rcases hlz:decide (cz<0) with _|_
          ·rw[hlz,if_neg (by simp)]at HN
           go_wp2_with (first|(go_at_call 30;refine CMT.out.mono ?_;rintro e w6 ⟨v6,rfl,ho6,u6⟩;(obtain⟨A6,c6,rfl,-,-,-,-⟩:=own_form ho6))|(go_at_call 31;refine(CQ.out _ u6).mono ?_;rintro e w7 ⟨rfl,rfl⟩))
           go_roundw
           case rel=>exact⟨k+1,by omega,by go_num,by rw[HN.out];exact HOld _ u6,(hU.trans v5).trans u6⟩
           case measure=>simp[intOf];omega
          ·rw[hlz,if_pos rfl]at HN
           go_wp2_with (first|(go_at_call 30;refine CMT.out.mono ?_;rintro e w6 ⟨v6,rfl,ho6,u6⟩;(obtain⟨A6,c6,rfl,-,-,-,-⟩:=own_form ho6))|(go_at_call 31;refine(CQ.out _ u6).mono ?_;rintro e w7 ⟨rfl,rfl⟩))
           go_roundw
           case rel=>exact⟨k+1,by omega,by go_num,by rw[HN.out];exact HNW _ u6,(hU.trans v5).trans u6⟩
           case measure=>simp[intOf];omega
         ·have hl2:((ms.length:Int)==(fb.length:Int))=false:=beq_eq_false_iff_ne.2 (by omega)
          have HBT:=qh (show btB ms fb=false by unfold btB;rw[if_neg hle];exact decide_eq_false hll)
          rw[HBT.out,if_neg (by simp)]at HN
          go_wp2_with (go_at_call 30;refine CMT.out.mono ?_;rintro e w6 ⟨v6,rfl,ho6,u6⟩;(obtain⟨A6,c6,rfl,-,-,-,-⟩:=own_form ho6))
          go_roundw
          case rel=>exact⟨k+1,by omega,by go_num,by rw[HN.out];exact HOld _ u6,(hU.trans v5).trans u6⟩
          case measure=>simp[intOf];omega
   ·obtain rfl:k=32:=by omega
    rcases hfb:fwB ok 32 with _|fb
    ·rw[hfb]at hbs
     have hbs':_=Value.slice none 0 0:=hbs
     subst hbs'
     go_wp2;go_ret2;exact⟨.slice none 0 0,rfl,by rw[hfb];exact World.ownsRow_nil _ _ _ _,U.trans hup⟩
    ·rw[hfb]at hbs
     obtain⟨a7,c7,rfl,ho7⟩:=hbs
     have HO:=qh ho7
     go_wp2;go_ret2;exact⟨.slice (some a7) fb.length c7,rfl,by rw[hfb];exact own_base HO.out U.size,U.trans hup⟩
 ·have HR:=qh (show fdR x.p (s.l.map Dd.p) g.l q.l i=([],evC x.p (s.l.map Dd.p) g.l q.l i) by unfold fdR;rw[if_neg hc])
  rw[HR.out];obtain⟨cc,hcc⟩:∃z,z=evC x.p (s.l.map Dd.p) g.l q.l i:=⟨_,rfl⟩
  rw[← hcc]at hc CC ⊢
  have hcd:(cc != 0)=true:=bne_iff_ne.2 hc
  clear hcc h h2 h3 h4 HR;go_enter Tryz.func7,Tryz.ntmps7
  go_wp2_with fail
  generalize w.alloc (.cells #[.slice x.rs.A x.rs.l.length x.rs.c,.int .i64 x.fr,.int .i64 x.to_,.slice x.ps.A x.ps.l.length x.ps.c,.slice x.ts.A x.ts.l.length x.ts.c,.slice x.pl.A x.pl.l.length x.pl.c,.slice x.ws.A x.ws.l.length x.ws.c,.slice x.st.A x.st.l.length x.st.c,.slice x.se.A x.se.l.length x.se.c,.slice x.ha.A x.ha.l.length x.ha.c,.slice s.A s.l.length s.c,.slice g.A g.l.length g.c,.slice q.A q.l.length q.c] 63)=X at *
  refine(CC.out _ u).mono ?_
  rintro e w1 ⟨rfl,v⟩
  replace u:=u.trans v;go_wp2;go_ret2;exact⟨_,rfl,World.ownsRow_nil _ _ _ _,u⟩
end Go.Proofs.YtihcmhmanfobcaaGreatDoor
