/- strings.Replacer.Replace over the four letters: what stands for each byte, in order. -/
import Derived.Test.YtaoplcclemckjaaGreatDoorReplB
import Derived.Test.YtaoplcclemckjaaGreatDoorNorm
import Derived.Deep.RegionLaw
import Derived.Deep.RegionHeldLaw
import Derived.Deep.QuietTactic
import Derived.BigQuiet
import Derived.Lib.QuietBelow
set_option maxHeartbeats 4000000
set_option maxRecDepth 100000
namespace Go.Proofs.YtaoplcclemckjaaGreatDoor
open Go.RowKit Go.Sort
theorem rpl_all(b:UInt8):rplM 0 b.toNat=if b=118 then some [117] else if b=106 then some [105] else if b=121 then some [105] else if b=119 then some [117,117] else none:=by
 have e:∀m:Nat,m<256→(b.toNat==m)=decide (b=UInt8.ofNat m):=by
  intro m hm
  have e2:(UInt8.ofNat m).toNat=m:=by simp;omega
  by_cases h:b=UInt8.ofNat m
  ·rw[decide_eq_true h,h,e2];simp
  ·rw[decide_eq_false h,beq_eq_false_iff_ne];intro e3;apply h;exact UInt8.toNat_inj.1 (by omega)
 simp only[rplM,keyV,List.drop_zero,List.lookup_cons,List.lookup_nil]
 rw[e 118 (by omega),e 106 (by omega),e 121 (by omega),e 119 (by omega)]
 have h1:UInt8.ofNat 118=118:=rfl
 have h2:UInt8.ofNat 106=106:=rfl
 have h3:UInt8.ofNat 121=121:=rfl
 have h4:UInt8.ofNat 119=119:=rfl
 rw[h1,h2,h3,h4];by_cases k1:b=118
 ·simp[k1]
 ·by_cases k2:b=106
  ·simp[k2]
  ·by_cases k3:b=121
   ·simp[k3]
   ·by_cases k4:b=119
    ·simp[k4]
    ·simp[k1,k2,k3,k4]
theorem rpl_none{b:UInt8}(h:rplM 0 b.toNat=none):rep1 b=[b]:=by
 rw[rpl_all]at h;unfold rep1
 split at h;· cases h
 split at h;· cases h
 split at h;· cases h
 split at h;· cases h
 rename_i h1 h2 h3 h4
 rw[if_neg h1,if_neg h2,if_neg h3,if_neg h4]
theorem rpl_some{b:UInt8}{r:List UInt8}(h:rplM 0 b.toNat=some r):rep1 b=r∧0<r.length∧r.length≤2:=by
 rw[rpl_all]at h;unfold rep1
 split at h
 ·rename_i h1;rw[if_pos h1];cases h;exact⟨rfl,by decide,by decide⟩
 ·rename_i h1;rw[if_neg h1]
  split at h
  ·rename_i h2;rw[if_pos h2];cases h;exact⟨rfl,by decide,by decide⟩
  ·rename_i h2;rw[if_neg h2]
   split at h
   ·rename_i h3;rw[if_pos h3];cases h;exact⟨rfl,by decide,by decide⟩
   ·rename_i h3;rw[if_neg h3]
    split at h
    ·rename_i h4;rw[if_pos h4];cases h;exact⟨rfl,by decide,by decide⟩
    ·cases h
theorem Tab.up{w w':World}{base h:Nat}(ht:Tab w base h)(hu:Up w w'):Tab w' base h:=by
 obtain⟨f,h1,h2,h3⟩:=ht
 exact⟨f,h1.of_block (hu.block h h1.lt),h2.keep (fun q _ hq _=>hu.block q hq),h3⟩
theorem Tab.at_{w:World}{base h:Nat}(ht:Tab w base h)(b:UInt8) :
 (rplM 0 b.toNat=none∧w.cell? ⟨h,b.toNat,none⟩=some (.slice none 0 0)) ∨
 ∃r q c,rplM 0 b.toNat=some r∧w.cell? ⟨h,b.toNat,none⟩=some (.slice (some ⟨q,0,none⟩) r.length c)∧Ybl w q r:=by
 obtain⟨f,h1,h2,-⟩:=ht
 have hb:b.toNat<256:=b.toNat_lt
 have hc:=World.rowIs.cell h1 (show b.toNat<257 by omega)
 rcases hr:rplM 0 b.toNat with _|r
 ·exact .inl ⟨rfl,by rw[hc,(h2 _ hb).1 hr]⟩
 ·obtain⟨q,c,e,-,hy⟩:=(h2 _ hb).2 r hr
  exact .inr ⟨r,q,c,rfl,by rw[hc,e],hy⟩
theorem Tab.list{w:World}{base h:Nat}(ht:Tab w base h):∃A cc,w.cell? ⟨h,256,none⟩=some (.slice A 4 cc):=by
 obtain⟨f,h1,-,A,cc,e⟩:=ht
 exact⟨A,cc,by rw[World.rowIs.cell h1 (show 256<257 by omega),e]⟩
theorem Ybl.rd{w:World}{q:Nat}{r:List UInt8}(h:Ybl w q r):∀j v,(r.flatMap bytC)[j]?=some v→w.cell? (Addr.add ⟨q,0,none⟩ j)=some v:=by
 obtain⟨cs,fr,h1,h2⟩:=h
 intro j v hv
 rw[byt_flat,List.getElem?_map]at hv
 rcases hx:r[j]? with _|x
 ·rw[hx]at hv;cases hv
 ·rw[hx]at hv;simp at hv;subst hv
  rw[show(⟨q,0,none⟩:Addr).add j=⟨q,j,none⟩ by cases j<;>simp[Addr.add]]
  simp[World.cell?,h1,h2 j x hx]
def wideB(s:ByteArray):ByteArray:=⟨(wideL s.data.toList).toArray⟩
theorem ba_take_all{s:ByteArray}{k:Nat}(hk:s.size≤k)(h:wideL (s.data.toList.take k)=s.data.toList.take k):s=wideB s:=by
 rw[List.take_of_length_le (by simp;omega)]at h
 obtain⟨a⟩:=s
 unfold wideB;simp only at h;rw[h]
def bufL(l:List UInt8)(n:Nat):List Value:=l.flatMap bytC++List.replicate (n-l.length) (.int .u8 0)
theorem bytF_len(l:List UInt8):(l.flatMap bytC).length=l.length:=by rw[byt_flat,List.length_map]
theorem bufL_len(l:List UInt8)(n:Nat)(h:l.length≤n):(bufL l n).length=n:=by
 unfold bufL;rw[List.length_append,bytF_len,List.length_replicate];omega
theorem bufL_splice(l r:List UInt8)(n:Nat)(h:l.length+r.length≤n):splice (bufL l n) l.length (r.flatMap bytC)=bufL (l++r) n:=by
 unfold splice bufL
 rw[List.take_left' (bytF_len l),bytF_len,List.drop_append,bytF_len,List.drop_eq_nil_of_le (by rw[bytF_len];omega),List.nil_append,List.drop_replicate,List.flatMap_append,List.append_assoc,List.length_append]
 congr 3;omega
theorem bufL_set(l:List UInt8)(b:UInt8)(n:Nat)(h:l.length<n):(bufL l n).set l.length (.int .u8 (b.toNat:Int))=bufL (l++[b]) n:=by
 unfold bufL
 rw[List.set_append_right _ _ (by rw[bytF_len];exact Nat.le_refl _),bytF_len,Nat.sub_self,List.flatMap_append,List.append_assoc,List.length_append]
 obtain⟨p,hp⟩:∃p,n-l.length=p+1:=⟨n-l.length-1,by omega⟩
 rw[hp,List.replicate_succ,List.set_cons_zero];rw[show n-(l.length+[b].length)=p by simp;omega]
 rfl
theorem bufL_rd{w:World}{G n:Nat}{l:List UInt8}{t:TypeId}{fr:Nat × Nat}(hg:w.heap[G]?=some (.cells (bufL l n).toArray t fr))(_hl:l.length=n):RdY w 0 (G+1) (some ⟨G,0,none⟩) l:=fun _=>by
 refine⟨G,0,rfl,Nat.zero_le _,Nat.lt_succ_self _,fun i x hx j u hu=>?_⟩
 match j,hu with
 | 0,hu =>
   simp at hu;subst hu
   have hi:=(List.getElem?_eq_some_iff.1 hx).1
   have:(bufL l n).toArray[i]?=some (.int .u8 (x.toNat:Int)):=by
    rw[List.getElem?_toArray];unfold bufL
    rw[List.getElem?_append_left (by rw[bytF_len];exact hi),byt_flat,List.getElem?_map,hx];rfl
   simp[World.cell?,hg,this]
theorem run_cutAt{P:Program}{t:TypeId}(ht:P.underlying t=some (.slice (P.elem t)))(hs:∀w,(sizeOf (P.elem t)).run P w=.ok 1 w)(G n j:Nat)(hj:j<n)(w:World) :
 (Instr.sliceAt t (.slice (some ⟨G,0,none⟩) n n) (some (.int .i64 (j:Int))) none none).run P w=.ok (.slice (some ⟨G,j,none⟩) (n-j) (n-j)) w:=by
 rw[run_sliceAt_slice w t _ _ _ _ ht,run_slice_l w t _ n n ht .i64 (j:Int) (by omega) (by omega),hs]
 have hne:¬ n=j:=by omega
 simp[Result.andThen,sliced,hne,Addr.add]
 intro h;exact h.symm
theorem made_buf(n:Nat):madeCells #[Value.int .u8 0] n=(bufL [] n).toArray:=by
 apply Array.ext
 ·rw[size_madeCells];simp[bufL]
 ·intro i h1 h2
  simp[madeCells,bufL,Nat.mod_one]
theorem bsReplace_any(s:ByteArray)(base h:Nat)(w:World)(hT:Tab w base h)(hs:s.size<32) :
 Calls Tryz.prog 418 #[.pointer (some ⟨h,0,none⟩),.string s] w fun e w'=>e=.returned (.string (wideB s))∧Up w w':=by
 obtain⟨A,cc,c256⟩:=hT.list
 obtain⟨i0,hi0,hz0,hz1,hz2⟩:=info_parts infoByt
 have hle:decide ((32:Int)≤(s.size:Int))=false:=by simp;omega
 have hnn:=run_neNil
 have HT:=qh hT
 clear hT;have hnot:∀(x:Bool) (w:World),(Op.unary .not (.bool x)).run Tryz.prog w=.ok (.bool (!x)) w:=fun _ _=>rfl
 go_enter Tryz.func418,Tryz.ntmps418
 go_wp2;go_loop [5,6,10,11] (fun ns ch i _=>∃(k n:Nat) (c:Bool),k≤s.size∧i=.int .i64 k∧ns=.int .i64 n∧n+k=s.size+(wideL (s.data.toList.take k)).length∧ch=.bool c∧(c=false→wideL (s.data.toList.take k)=s.data.toList.take k)) (fun _ _ i _=>s.size-(intOf i).toNat)
 case atStart=>exact⟨0,s.size,false,Nat.zero_le _,rfl,rfl,rfl,rfl,fun _=>rfl⟩
 case round =>
  obtain⟨k,n,c,hk,rfl,rfl,hn,rfl,hc⟩:=hrel
  have hll:(wideL (s.data.toList.take k)).length≤2*k:=by
   have:=wideL_len (s.data.toList.take k);rw[List.length_take]at this;omega
  have HN:=qh hn
  have HC:=qh hc
  have hn64:n≤64:=by omega
  clear hc;by_cases hlt:k<s.size
  ·have hst:=wideL_succ (bytes_at hlt)
   have hb256:s[k].toNat<256:=s[k].toNat_lt
   rcases HT.out.at_ s[k] with⟨hr,hcell⟩|⟨r,q,c2,hr,hcell,hy⟩
   ·have HE:=qh (hst.trans (by rw[rpl_none hr]))
    clear hst hr hn;go_wp2;go_round
    case rel =>
     refine⟨k+1,n,c,by omega,by go_num,rfl,by rw[HE.out,List.length_append];have:=HN.out;simp only[List.length_cons,List.length_nil];omega,rfl,fun h0=>?_⟩
     rw[HE.out,HC.out h0,List.take_succ_eq_append_getElem (by simp;omega)];rfl
    case measure=>simp[intOf];omega
   ·obtain⟨hrep,hr0,hr2⟩:=rpl_some hr
    have HE:=qh (hst.trans (by rw[hrep]))
    clear hst hr hn hrep;go_wp2;go_round
    case rel =>
     refine⟨k+1,n+(r.length-1),true,by omega,by go_num,?_,by rw[HE.out,List.length_append];have:=HN.out;omega,rfl,fun h0=>by cases h0⟩
     congr 1;omega
    case measure=>simp[intOf];omega
  ·have HK:=qh (show k=s.size by omega)
   cases c with
   | false =>
     have HE:=qh (ba_take_all (s:=s) (k:=k) (by omega) (HC.out rfl))
     clear hn;go_wp2;go_ret;exact⟨ret_ba HE.out,Up.refl _⟩
   | true =>
     have hnw:n=(wideL s.data.toList).length:=by
      have h1:=hn
      rw[List.take_of_length_le (by simp;omega)]at h1;omega
     have HW:=qh hnw
     have hmk:=fun wx=>run_make_row (P:=Tryz.prog) 183 5 i0 _ Tryz.underlying183 hi0 hz0 hz1 rfl .i64 .i64 n (by rw[hz2];omega) (by omega) wx
     have hne0:=HT.out
     clear hn hnw HN HC hll;have hW3:(w.alloc (.cells (madeCells #[.int .u8 0] n) 5)).heap[w.heap.size]?=some (.cells (bufL [] n).toArray 5 (0,0)):=by rw[Go.Deep.blk_alloc_new,made_buf]
     have hU3:=Up.alloc w (.cells (madeCells #[.int .u8 0] n) 5)
     have HG3:=qh hW3
     clear hW3;go_wp2;generalize w.alloc (.cells (madeCells #[.int .u8 0] n) 5)=w3 at *
     go_loopw [13,14,15] (fun jv i _ wr=>∃(k:Nat) (l:List UInt8),k≤s.size∧i=.int .i64 k∧l=wideL (s.data.toList.take k)∧jv=.int .i64 l.length∧wr.heap[w.heap.size]?=some (.cells (bufL l n).toArray 5 (0,0))∧Up w wr) (fun _ i _ _=>s.size-(intOf i).toNat)
     case atStart=>exact⟨0,[],Nat.zero_le _,rfl,rfl,rfl,HG3.out,hU3⟩
     case round =>
      obtain⟨k,l,hk,rfl,hl,rfl,hg,hup⟩:=hrel
      have HL:=qh hl
      have HG:=qh hg
      clear hl hg;by_cases hlt:k<s.size
      ·have hst:=wideL_succ (bytes_at hlt)
       rw[← HL.out]at hst;have hb256:s[k].toNat<256:=s[k].toNat_lt
       have hle2:(wideL (s.data.toList.take (k+1))).length≤n:=by
        rw[HW.out];have:wideL s.data.toList=wideL (s.data.toList.take (k+1))++wideL (s.data.toList.drop (k+1)):=by
         unfold wideL;rw[← List.flatMap_append,List.take_append_drop]
        rw[this,List.length_append];omega
       have hTr:=HT.out.up hup
       rcases hTr.at_ s[k] with⟨hr,hcell⟩|⟨r,q,c2,hr,hcell,hy⟩
       ·have HE:=qh (hst.trans (by rw[rpl_none hr]))
        have hln:l.length<n:=by rw[HE.out,List.length_append,List.length_singleton]at hle2;omega
        have hcg:wr.cell? ⟨w.heap.size,l.length,none⟩=some (.int .u8 0):=by
         have:(bufL l n).toArray[l.length]?=some (.int .u8 0):=by
          rw[List.getElem?_toArray];unfold bufL
          rw[List.getElem?_append_right (by rw[bytF_len];exact Nat.le_refl _),bytF_len,Nat.sub_self,List.getElem?_replicate,if_pos (by omega)]
         simp[World.cell?,HG.out,this]
        have hfg:wr.frozen? ⟨w.heap.size,l.length,none⟩=false:=by simp[World.frozen?,HG.out]
        have HG5:=qh (show(wr.setCell ⟨w.heap.size,l.length,none⟩ (.int .u8 (s[k].toNat:Int))).heap[w.heap.size]?=some (.cells (bufL (l++[s[k]]) n).toArray 5 (0,0)) by
         rw[setCell_eq_setRow _ _ _ _ _ _ _ HG.out,setRow_heap _ _ _ _ _ _ HG.out,← bufL_set l s[k] n hln]
         simp)
        clear hst hr hle2;go_wp2;go_roundw
        case rel=>exact⟨k+1,l++[s[k]],by omega,by go_num,HE.out.symm,by rw[List.length_append];go_num,HG5.out,hup.setCell (Nat.le_refl _) _⟩
        case measure=>simp[intOf];omega
       ·obtain⟨hrep,hr0,hr2⟩:=rpl_some hr
        have HE:=qh (hst.trans (by rw[hrep]))
        have hln:l.length+r.length≤n:=by rw[HE.out,List.length_append]at hle2;omega
        have hln':l.length<n:=by omega
        have HCUT:=fun wx=>run_cutAt (P:=Tryz.prog) (t:=183) Tryz.underlying183 (fun _=>rfl) w.heap.size n l.length hln' wx
        have HY:=qh hy.rd
        have hfl:=bytF_len r
        obtain⟨cs,hcs⟩:∃cs,cs=r.flatMap bytC:=⟨_,rfl⟩
        have hone:∀v∈cs,v.oneCell'=true:=by
         rw[hcs,byt_flat];intro v hv
         obtain⟨x,-,rfl⟩:=List.mem_map.1 hv;rfl
        have HSP:=qh (bufL_splice l r n hln)
        rw[← hcs]at HY hfl HSP;have HO:=qh hone
        have hmin:cs.length=Nat.min r.length (n-l.length):=by rw[hfl];show r.length=min r.length (n-l.length);omega
        have hfit:l.length+cs.length≤(bufL l n).length:=by rw[bufL_len l n (by omega),hfl];exact hln
        have HMI:=qh hmin
        have HFI:=qh hfit
        clear hst hr hle2 hrep hone hmin hfit hy hcs;have hcv:(Tryz.prog.info? 5).map (·.size)=some 1:=by rw[hi0];simp[hz1]
        have hb256i:(s[k].toNat:Int)<256:=by omega
        have hcell2:wr.drew.cell? ⟨h,s[k].toNat,none⟩=some (.slice (some ⟨q,0,none⟩) r.length c2):=hcell
        go_wp2_with fail
        go_region_law (refine step_copy_splice rfl (.tmp 105) (.tmp 111) 183 183 rfl 5 Tryz.underlying183 hcv (some ⟨w.heap.size,l.length,none⟩) (some ⟨q,0,none⟩) (n-l.length) (n-l.length) r.length c2 (by simp[Act.eval]) (by simp[Act.eval]) w.heap.size l.length (bufL l n) 5 HG.out cs HMI.out (fun _=>⟨rfl,_,rfl,HY.out⟩) HFI.out HO.out w.heap.size w hup.drew (Nat.le_refl _) ?_
                       intro w4 hg4 hb4)
        all_goals
         have HG4:=hg4
         rw[HSP.out]at HG4;have HU:=qh hb4
         clear hg4 hb4;go_wp2;go_roundw
        case rel=>exact⟨k+1,l++r,by omega,by go_num,HE.out.symm,by rw[List.length_append];go_num,HG4.out,HU.out⟩
        case measure=>simp[intOf];omega
      ·have hK:=HL.out
       rw[List.take_of_length_le (by simp;omega)]at hK
       have hrd:=bufL_rd HG.out (by rw[hK];exact HW.out.symm)
       have hcv:=run_strOf (P:=Tryz.prog) Tryz.underlying183 Tryz.underlying5 Tryz.underlying9 wr (cap:=n) hrd
       rw[show l.length=n by rw[hK];exact HW.out.symm]at hcv
       have HE:=qh (show(⟨l.toArray⟩:ByteArray)=wideB s by rw[hK];rfl)
       clear hK hrd;go_wp2;go_ret;exact⟨ret_ba HE.out,hup⟩
theorem Tab.setR{w:World}{base h g:Nat}{f':Nat→Value}(ht:Tab w base h)(hr:w.rowIs g 360 5 f')(i:Nat)(v:Value):Tab (w.setCell ⟨g,i,none⟩ v) base h:=by
 obtain⟨c,e1,-⟩:=hr
 obtain⟨f,h1,h2,h3⟩:=ht
 have hne:h≠g:=by
  obtain⟨c2,e2,-⟩:=h1
  rintro rfl;rw[e1]at e2;cases e2
 refine⟨f,h1.setOther (a:=⟨g,i,none⟩) hne v,h2.keep (fun q _ _ ⟨cs,fr,e⟩=>?_),h3⟩
 refine Below.heap_setCell _ _ _ _ ?_
 rintro rfl;rw[e1]at e;cases e
theorem Tab.drew{w:World}{base h:Nat}(ht:Tab w base h):Tab w.drew base h:=ht
theorem buildOnce_any(g B cc:Nat)(c d:Value)(wa w:World)(hr:Rp w g (.int .u32 0) (.int .i32 1) c d (.slice (some ⟨B,0,none⟩) 8 cc))(h8:W8 w B)(hup:Up wa w)(hga:wa.heap.size≤g) :
 Calls Tryz.prog 325 #[.pointer (some ⟨g,0,none⟩)] w fun en w2=>en=.returned (.tuple #[])∧∃d' e',Rp w2 g (.int .u32 0) (.int .i32 1) c d' e' ∧
  ∃h base,d'=.iface 403 (.pointer (some ⟨h,0,none⟩))∧Tab w2 base h∧Up wa w2:=by
 have HB:=qh (build_any g B cc _ _ _ _ w hr h8)
 go_enter Tryz.func325,Tryz.ntmps325
 go_wp2_with fail
 refine HB.out.mono ?_
 rintro en w1 ⟨h,rfl,hwh,hT,hu⟩
 have hr1:Rp w1 g (.int .u32 0) (.int .i32 1) c d (.slice (some ⟨B,0,none⟩) 8 cc):=World.rowIs.of_block hr (hu.block g (World.rowIs.lt hr))
 have m0:=hr1.c3
 have m1:w1.frozen? ⟨g,3,none⟩=false:=World.rowIs.frozen hr1 3
 have hr2:=hr1.set3 (.iface 403 (.pointer (some ⟨h,0,none⟩)))
 have m2:=hr2.c4
 have m3:=World.rowIs.frozen hr2 4
 have HT:=qh (((hT.setR hr1 3 (.iface 403 (.pointer (some ⟨h,0,none⟩)))).setR hr2 4 (.slice none 0 0)))
 have HR:=qh (hr2.set4 (.slice none 0 0))
 have HU:=qh (((hup.trans hu).setCell (p:=⟨g,3,none⟩) hga (.iface 403 (.pointer (some ⟨h,0,none⟩)))).setCell (p:=⟨g,4,none⟩) hga (.slice none 0 0))
 clear hr1 hr2 hT;go_wp2;go_end0
 exact⟨rfl,_,_,HR.out,h,_,rfl,HT.out,HU.out⟩
theorem replace_any(s:ByteArray)(hs:s.size<32)(g B cc:Nat)(c:Value)(wa w:World)(hr:Rp w g (.int .u32 0) (.int .i32 0) c .nilIface (.slice (some ⟨B,0,none⟩) 8 cc))(h8:W8 w B)(hne:B≠g)(hup:Up wa w)(hga:wa.heap.size≤g) :
 Calls Tryz.prog 287 #[.pointer (some ⟨g,0,none⟩),.string s] w fun e w'=>e=.returned (.string (wideB s))∧Up wa w':=by
 have hB:=buildOnce_any g B cc c .nilIface wa (w.setCell ⟨g,1,none⟩ (.int .i32 1)) (hr.set1 _) (h8.set hne) (hup.setCell (p:=⟨g,1,none⟩) hga _) hga
 have HD:=qh (doOnce_any 325 (fun _ _=>by kernel_rfl) g c _ _ (fun w2 d'=>∃h base,d'=.iface 403 (.pointer (some ⟨h,0,none⟩))∧Tab w2 base h∧Up wa w2) w hr hB)
 have hmf:∀(fn:Fn) (first cap:Array Value) (w:World),(Instr.makeFunc fn first cap).run Tryz.prog w=.ok (.func fn first cap) w:=fun _ _ _ _=>rfl
 clear hB;go_enter Tryz.func287,Tryz.ntmps287
 go_wp2_with fail
 refine HD.out.mono ?_
 rintro en w1 ⟨rfl,w2,d',e',hr2,⟨h,base,rfl,hT,hu⟩,rfl⟩
 have hr3:=Rp.set0 hr2 (.int .u32 1)
 have hr4:=Rp.set1 hr3 (.int .i32 0)
 have m0:=hr4.c3
 have hT4:=(hT.setR hr2 0 (.int .u32 1)).setR hr3 1 (.int .i32 0)
 have HU:=qh (((hu.setCell (p:=⟨g,0,none⟩) hga (.int .u32 1)).setCell (p:=⟨g,1,none⟩) hga (.int .i32 0)).drew)
 have HR:=qh (bsReplace_any s base h _ hT4.drew hs)
 clear hr3 hr4 hT hT4 hr2;go_wp2_with fail
 refine HR.out.mono ?_
 rintro en w5 ⟨rfl,hu5⟩
 go_wp2;go_ret;exact⟨rfl,HU.out.trans hu5⟩
theorem wideB_at{s:ByteArray}{k:Nat}(h:k<(wideB s).size):(wideL s.data.toList)[k]?=some (wideB s)[k]:=bytes_at h
theorem W8.new(w:World):W8 (w.alloc (.cells #[.string ⟨#[118]⟩,.string ⟨#[117]⟩,.string ⟨#[106]⟩,.string ⟨#[105]⟩,.string ⟨#[121]⟩,.string ⟨#[105]⟩,.string ⟨#[119]⟩,.string ⟨#[117,117]⟩] 9)) w.heap.size :=
 ⟨by simp,by simp,by simp,by simp,by simp,by simp,by simp,by simp⟩
theorem rd8{w:World}{B:Nat}(h:W8 w B):RdT w 0 (B+1) (some ⟨B,0,none⟩) repW:=fun _=>by
 refine⟨B,0,rfl,Nat.zero_le _,Nat.lt_succ_self _,fun i x hx j u hu=>?_⟩
 have hi:=(List.getElem?_eq_some_iff.1 hx).1
 have hi8:i<8:=hi
 match j,hu with
 | 0,hu =>
   simp at hu;subst hu
   match i,hi8,hx with
   | 0,_,hx=>cases hx;exact h.c0
   | 1,_,hx=>cases hx;exact h.c1
   | 2,_,hx=>cases hx;exact h.c2
   | 3,_,hx=>cases hx;exact h.c3
   | 4,_,hx=>cases hx;exact h.c4
   | 5,_,hx=>cases hx;exact h.c5
   | 6,_,hx=>cases hx;exact h.c6
   | 7,_,hx=>cases hx;exact h.c7
theorem normalWord_any(s:ByteArray)(w:World)(hs:s.size<32) :
 Calls Tryz.prog 238 #[.string s] w fun e w'=>e=.returned (.string (nrm s))∧Up w w':=by
 obtain⟨i0,hi0,hz0,hz1,hz2⟩:=info_parts infoByt
 have hn8:=W8.new w
 have HN:=qh (newReplacer_any ⟨w.heap.size,0,none⟩ 8 0 (w.heap.size+1) _ (rd8 hn8))
 have hua:=Up.alloc w (.cells #[.string ⟨#[118]⟩,.string ⟨#[117]⟩,.string ⟨#[106]⟩,.string ⟨#[105]⟩,.string ⟨#[121]⟩,.string ⟨#[105]⟩,.string ⟨#[119]⟩,.string ⟨#[117,117]⟩] 9)
 clear hn8;go_enter Tryz.func238,Tryz.ntmps238
 go_wp2_with fail
 refine HN.out.mono ?_
 rintro e w1 ⟨g,v,rfl,hg,hrp,hown,hu1⟩
 obtain⟨B',cc,e2,-,-,hB',-⟩:=own_form hown
 subst e2;obtain⟨B,rfl,-,-⟩:=hB' (by omega)
 have h8:W8 w1 B:=⟨by rw[hown.cellAt 0 (by omega)];rfl,by rw[hown.cellAt 1 (by omega)];rfl,by rw[hown.cellAt 2 (by omega)];rfl,by rw[hown.cellAt 3 (by omega)];rfl,by rw[hown.cellAt 4 (by omega)];rfl,by rw[hown.cellAt 5 (by omega)];rfl,by rw[hown.cellAt 6 (by omega)];rfl,by rw[hown.cellAt 7 (by omega)];rfl⟩
 have hne:B≠g:=by
  obtain⟨cur,fr,e1⟩:=own_block_type hown (q:=B) rfl
  obtain⟨c2,e3,-⟩:=hrp
  rintro rfl;rw[e1]at e3;cases e3
 have hup1:=hua.trans hu1
 have HR:=qh (replace_any s hs g B cc _ w w1 hrp h8 hne hup1 (by have:=hua.size;omega))
 clear h8 hne hrp hown hB' hg;go_wp2_with fail
 refine HR.out.mono ?_
 rintro e w2 ⟨rfl,hu2⟩
 obtain⟨x,hx⟩:∃x,x=wideB s:=⟨_,rfl⟩
 obtain⟨L,hL⟩:∃L,L=wideL s.data.toList:=⟨_,rfl⟩
 have hxs:x.size=L.length:=by rw[hx,hL];rfl
 have hxat:∀k (h:k<x.size),L[k]?=some x[k]:=by subst hx;subst hL;exact fun k h=>wideB_at h
 have hll:L.length≤64:=by rw[hL];have:=wideL_len s.data.toList;simp at this;omega
 rw[← hx];have HL:=qh hL
 have HX:=qh hxat
 have HXS:=qh hxs
 have hx64:x.size≤64:=by omega
 clear hx hL hxat HR HN hxs;go_wp2;have hown0:=World.ownsRow_lit (base:=w2.heap.size) (e:=5) (size:=1) w2 #[] 0 (Nat.le_refl _) (by simp[maxLen]) rfl
 have hup0:=(Up.refl w2).allocs (.cells #[] 5)
 generalize w2.alloc (.cells #[] 5)=w3 at *
 go_loopw [3,4,13] (fun o _ i wr=>∃(j C2 cc2:Nat) (O:List UInt8),j≤x.size∧i=.int .i64 j∧O=sqK L j∧o=.slice (some ⟨C2,0,none⟩) O.length cc2∧wr.ownsRow w2.heap.size 5 1 (.slice (some ⟨C2,0,none⟩) O.length cc2) O.length (O.flatMap bytC)∧Up w2 wr) (fun _ _ i _=>x.size-(intOf i).toNat)
 case atStart=>exact⟨0,w2.heap.size,0,[],Nat.zero_le _,rfl,rfl,rfl,hown0,hup0⟩
 case round =>
  obtain⟨j,C2,cc2,O,hj,rfl,hO,rfl,hown,hupr⟩:=hrel
  have hol:O.length≤j:=by rw[hO];exact sqK_len _ _
  have HO:=qh hO
  clear hO;by_cases hlt2:j<x.size
  ·have HZ:=qh (HX.out j hlt2)
   by_cases hj0:j=0
   ·have hb0:((j:Int)==0)=true:=by subst hj0;rfl
    have HJ:=qh (show j=0∨L[j]?≠L[j-1]? from .inl hj0)
    clear hj0;go_wp2_with fail
    refine wp_region_quiet_below (by kernel_rfl) (by kernel_rfl) ?_
    repeat (first|go_big_quiet_step (fail)|quiet_step (fail))
    refine wpQuiet_nil ?_
    intro w5 hw5
    obtain⟨⟨dq,osq⟩,hw5⟩:=hw5
    have hup5:Up wr w5:=by rw[hw5];exact below_regrown _ _ _
    clear hw5;have HR:=qh (sqK_take HZ.out HJ.out)
    rw[← HO.out]at HR;have hown3:=own_up hown hup5
    have hupz:=hupr.trans hup5
    have n1:O.length+1≤maxLen:=by unfold maxLen;omega
    have n2:(O.length+1)*1≤140737488355328:=by omega
    have n3:w2.heap.size≤(w5.alloc (.cells #[.int .u8 (x[j].toNat:Int)] 5)).heap.size:=(hupz.allocs _).size
    go_wp2_with ((at_builtin;refine wpList_append_own _ rfl _ _ 183 rfl w2.heap.size 5 i0 _ 1 1 Tryz.underlying183 hi0 hz0 hz1 hz2 rfl (by decide) _ _ _ rfl (hown3.alloc _) ⟨w5.heap.size,0,none⟩ 1 1 [.int .u8 (x[j].toNat:Int)] rfl rfl (cell_one_new _ _ _) (by simp[Value.oneCell']) n1 n2 n3 ?_))
    intro v' w6 hown' hgrow _
    have hln:O.length+1=(sqK L (j+1)).length:=by rw[HR.out,List.length_append];rfl
    have ho:=byt_step (m:=[x[j]]) hown' HR.out hln
    have hu:=(hupz.allocs (.cells #[.int .u8 (x[j].toNat:Int)] 5)).grown hgrow (fun k hk=>(hown3.lt k hk).1)
    obtain⟨O2,hO2⟩:∃x,x=sqK L (j+1):=⟨_,rfl⟩
    rw[← hO2]at ho hln;obtain⟨C3',cc3,e2,-,-,hC3,-⟩:=own_form ho
    subst e2;obtain⟨C3,rfl,-,-⟩:=hC3 (by omega)
    clear hown' hgrow hC3 hln;have HO2:=qh hO2
    clear hO2 HR;go_wp2;go_roundw
    case rel=>exact⟨j+1,C3,cc3,O2,by omega,by go_num,HO2.out,rfl,ho,hu⟩
    case measure=>simp[intOf];omega
   ·have hb0:((j:Int)==0)=false:=by rw[beq_eq_false_iff_ne];omega
    obtain⟨q,hq⟩:∃q,q+1=j:=⟨j-1,by omega⟩
    have hqL:q<x.size:=by omega
    have hwr:IntKind.i64.wrap ((j:Int)-1)=(q:Int):=by rw[IntWalk.i64_in _ (by omega)];omega
    have hj1:j-1=q:=by omega
    have hy:L[j-1]?=some x[q]:=by rw[hj1];exact HX.out q hqL
    have hj2:j≠0:=hj0
    have HJ2:=qh hj2
    have HY:=qh hy
    clear hq hj1 hj2 hj0 hy;by_cases hzy:x[j]=x[q]
    ·have hne:((x[j].toNat:Int) != (x[q].toNat:Int))=false:=by rw[hzy];simp
     have HJ:=qh (show L[j]?=L[j-1]? by rw[HZ.out,HY.out,hzy])
     clear hzy;go_wp2_with fail
     refine wp_region_quiet_below (by kernel_rfl) (by kernel_rfl) ?_
     repeat (first|go_big_quiet_step (fail)|quiet_step (fail))
     refine wpQuiet_nil ?_
     intro w5 hw5
     obtain⟨⟨dq,osq⟩,hw5⟩:=hw5
     have hup5:Up wr w5:=by rw[hw5];exact below_regrown _ _ _
     clear hw5 hwr;go_wp2;go_roundw
     case rel=>exact⟨j+1,C2,cc2,O,by omega,by go_num,by rw[sqK_skip HJ2.out HJ.out];exact HO.out,rfl,own_up hown hup5,hupr.trans hup5⟩
     case measure=>simp[intOf];omega
    ·have hne:((x[j].toNat:Int) != (x[q].toNat:Int))=true:=by simp;exact fun e=>hzy (UInt8.toNat_inj.1 (by omega))
     have HJ:=qh (show j=0∨L[j]?≠L[j-1]? from .inr (by rw[HZ.out,HY.out];exact fun e=>hzy (Option.some.inj e)))
     clear hzy;go_wp2_with fail
     refine wp_region_quiet_below (by kernel_rfl) (by kernel_rfl) ?_
     repeat (first|go_big_quiet_step (fail)|quiet_step (fail))
     refine wpQuiet_nil ?_
     intro w5 hw5
     obtain⟨⟨dq,osq⟩,hw5⟩:=hw5
     have hup5:Up wr w5:=by rw[hw5];exact below_regrown _ _ _
     clear hw5 hwr;have HR:=qh (sqK_take HZ.out HJ.out)
     rw[← HO.out]at HR;have hown3:=own_up hown hup5
     have hupz:=hupr.trans hup5
     have n1:O.length+1≤maxLen:=by unfold maxLen;omega
     have n2:(O.length+1)*1≤140737488355328:=by omega
     have n3:w2.heap.size≤(w5.alloc (.cells #[.int .u8 (x[j].toNat:Int)] 5)).heap.size:=(hupz.allocs _).size
     go_wp2_with ((at_builtin;refine wpList_append_own _ rfl _ _ 183 rfl w2.heap.size 5 i0 _ 1 1 Tryz.underlying183 hi0 hz0 hz1 hz2 rfl (by decide) _ _ _ rfl (hown3.alloc _) ⟨w5.heap.size,0,none⟩ 1 1 [.int .u8 (x[j].toNat:Int)] rfl rfl (cell_one_new _ _ _) (by simp[Value.oneCell']) n1 n2 n3 ?_))
     intro v' w6 hown' hgrow _
     have hln:O.length+1=(sqK L (j+1)).length:=by rw[HR.out,List.length_append];rfl
     have ho:=byt_step (m:=[x[j]]) hown' HR.out hln
     have hu:=(hupz.allocs (.cells #[.int .u8 (x[j].toNat:Int)] 5)).grown hgrow (fun k hk=>(hown3.lt k hk).1)
     obtain⟨O2,hO2⟩:∃x,x=sqK L (j+1):=⟨_,rfl⟩
     rw[← hO2]at ho hln;obtain⟨C3',cc3,e2,-,-,hC3,-⟩:=own_form ho
     subst e2;obtain⟨C3,rfl,-,-⟩:=hC3 (by omega)
     clear hown' hgrow hC3 hln;have HO2:=qh hO2
     clear hO2 HR;go_wp2;go_roundw
     case rel=>exact⟨j+1,C3,cc3,O2,by omega,by go_num,HO2.out,rfl,ho,hu⟩
     case measure=>simp[intOf];omega
  ·have HE:=qh (show O=sqK (wideL s.data.toList) (wideL s.data.toList).length by rw[HO.out,← HL.out,show j=L.length by have:=HXS.out;omega])
   clear HO;have hro:=Rd.own bytC_len hown
   have hcv:=fun(l:List UInt8) (cap:Nat) (hr:RdY wr w2.heap.size wr.heap.size (some ⟨C2,0,none⟩) l)=>run_strOf (P:=Tryz.prog) Tryz.underlying183 Tryz.underlying5 Tryz.underlying9 wr (cap:=cap) hr
   by_cases h3:3≤O.length
   ·have hd3:decide ((2:Int)<(O.length:Int))=true:=by simp;omega
    obtain⟨m,hm⟩:∃m,m+1=O.length:=⟨O.length-1,by omega⟩
    have hm1:O.length-1=m:=by omega
    obtain⟨z,hz,z0⟩:=hro.byt0 (show m<O.length by omega)
    rw[← hm1]at hz;have hq:=u8_is (a:=z) 101 (by omega)
    have hwr:IntKind.i64.wrap ((O.length:Int)-1)=(m:Int):=by rw[IntWalk.i64_in _ (by omega)];omega
    have hml:m<O.length:=by omega
    have hcap:O.length≤cc2:=by
     obtain⟨A1,c1,e1,h1,-⟩:=own_form hown
     cases e1;exact h1
    have hmc:m≤cc2:=by omega
    have hcc:¬ cc2=0:=by omega
    by_cases hz1:z=101
    ·have hzb:((z.toNat:Int)==101)=true:=hq.trans (decide_eq_true hz1)
     have HN:=qh (nrm_c HE.out h3 hz hz1)
     have hlt3:(O.take m).length=m:=by rw[List.length_take];omega
     have hcv1:=hcv (O.take m) cc2 (hro.take _)
     rw[hlt3]at hcv1;have HM:=qh hm1
     clear hm hm1 hcv hz hq hz1 hlt3;go_wp2;go_ret;exact⟨ret_ba (by rw[HN.out,HM.out]),hu2.trans hupr⟩
    ·have hzb:((z.toNat:Int)==101)=false:=hq.trans (decide_eq_false hz1)
     have HN:=qh (nrm_b HE.out hz hz1)
     have hcv1:=hcv O cc2 hro
     clear hm hm1 hcv hz hq hz1;go_wp2;go_ret;exact⟨ret_ba HN.out.symm,hu2.trans hupr⟩
   ·have hd3:decide ((2:Int)<(O.length:Int))=false:=by simp;omega
    have HN:=qh (nrm_a HE.out h3)
    have hcv1:=hcv O cc2 hro
    clear hcv;go_wp2;go_ret;exact⟨ret_ba HN.out.symm,hu2.trans hupr⟩
def alkB(a b:ByteArray):Bool:=(nrm a).toList==(nrm b).toList
theorem alike_any(a b:ByteArray)(w:World)(ha:a.size<32)(hb:b.size<32) :
 Calls Tryz.prog 202 #[.string a,.string b] w fun e w'=>e=.returned (.bool (alkB a b))∧Up w w':=by
 have H1:=qh (normalWord_any a w ha)
 go_enter Tryz.func202,Tryz.ntmps202
 go_wp2_with fail
 refine H1.out.mono ?_
 rintro e w1 ⟨rfl,hu1⟩
 have H2:=qh (normalWord_any b w1 hb)
 go_wp2_with fail
 refine H2.out.mono ?_
 rintro e w2 ⟨rfl,hu2⟩
 go_wp2;go_ret;exact⟨rfl,hu1.trans hu2⟩
def alL(a b:List ByteArray):Bool:=decide (a.map nrm=b.map nrm)
theorem alL_len{a b:List ByteArray}(h:a.length≠b.length):alL a b=false:=by
 unfold alL;rw[decide_eq_false_iff_not];intro e;apply h
 have:=congrArg List.length e;simpa using this
theorem alL_end{a b:List ByteArray}{k:Nat}(hk:a.length≤k)(hl:a.length=b.length)(h:(a.take k).map nrm=(b.take k).map nrm):alL a b=true:=by
 rw[List.take_of_length_le hk,List.take_of_length_le (by omega)]at h
 unfold alL;exact decide_eq_true h
theorem alkB_eq{x y:ByteArray}:alkB x y=true ↔ nrm x=nrm y:=by unfold alkB;rw[beq_iff_eq];exact bytes_inj
theorem alL_no{a b:List ByteArray}{k:Nat}{x y:ByteArray}(hx:a[k]?=some x)(hy:b[k]?=some y)(h:alkB x y=false):alL a b=false:=by
 unfold alL;rw[decide_eq_false_iff_not];intro e
 have:=congrArg (fun l=>l[k]?) e
 simp only[List.getElem?_map,hx,hy,Option.map_some,Option.some.injEq]at this
 rw[alkB_eq.2 this]at h;cases h
theorem al_step{a b:List ByteArray}{k:Nat}{x y:ByteArray}(ht:(a.take k).map nrm=(b.take k).map nrm)(hx:a[k]?=some x)(hy:b[k]?=some y)(h:alkB x y=true):(a.take (k+1)).map nrm=(b.take (k+1)).map nrm:=by
 rw[List.take_succ_eq_append_getElem (List.getElem?_eq_some_iff.1 hx).1,List.take_succ_eq_append_getElem (List.getElem?_eq_some_iff.1 hy).1,List.map_append,List.map_append,ht,(List.getElem?_eq_some_iff.1 hx).2,(List.getElem?_eq_some_iff.1 hy).2];simp[alkB_eq.1 h]
theorem l24Alike_any(A B:Option Addr)(a b:List ByteArray)(ca cb lo hi lo' hi':Nat)(w:World)(hr:RdT w lo hi A a)(hhi:hi≤w.heap.size)(hr':RdT w lo' hi' B b)(hhi':hi'≤w.heap.size)
 (ha:∀x∈a,x.size<32) (hb:∀x∈b,x.size<32) (hn:a.length≤2000000) (_hn':b.length≤2000000) :
 Calls Tryz.prog 177 #[.slice A a.length ca,.slice B b.length cb] w fun e w'=>e=.returned (.bool (alL a b))∧Up w w':=by
 by_cases hl:a.length=b.length
 ·have hlb:((a.length:Int) != (b.length:Int))=false:=by rw[hl];simp
  have HL:=qh hl
  have HA:=qh ha
  have HB:=qh hb
  clear hl ha hb;go_enter Tryz.func177,Tryz.ntmps177
  go_wp2;go_loopw [5] (fun i wr=>∃k:Nat,k≤a.length∧i=.int .i64 k∧(a.take k).map nrm=(b.take k).map nrm∧Up w wr) (fun i _=>a.length-(intOf i).toNat)
  case atStart=>exact⟨0,Nat.zero_le _,rfl,rfl,Up.refl _⟩
  case round =>
   obtain⟨k,hk,rfl,ht,hup⟩:=hrel
   have HT:=qh ht
   clear ht;by_cases hlt:k<a.length
   ·have hlt':k<b.length:=by have:=HL.out;omega
    obtain⟨b1,o1,x,rfl,-,-,hx,z0⟩:=(hr.up hup hhi).txt hlt
    obtain⟨b2,o2,y,rfl,-,-,hy,y0⟩:=(hr'.up hup hhi').txt hlt'
    have hxs:=HA.out x (List.mem_of_getElem? hx)
    have hys:=HB.out y (List.mem_of_getElem? hy)
    have HX:=qh hx
    have HY:=qh hy
    have c1:∀dd os,Calls Tryz.prog 216 #[.string x] (grow (redrawn wr dd) os) fun e w''=>e=.returned (.string (nrm x))∧∃p:Regrown,w''=grow (redrawn wr p.d) p.os :=
     fun dd os=>Calls.regrown_of (l10Normal_any x _ (by omega))
    have c2:∀dd os,Calls Tryz.prog 216 #[.string y] (grow (redrawn wr dd) os) fun e w''=>e=.returned (.string (nrm y))∧∃p:Regrown,w''=grow (redrawn wr p.d) p.os :=
     fun dd os=>Calls.regrown_of (l10Normal_any y _ (by omega))
    have C1:=qh c1
    have C2:=qh c2
    have Z0:=cell_regrown z0
    have Y0:=cell_regrown y0
    clear hx hy c1 c2;obtain⟨q,hq⟩:∃q,q=alkB x y:=⟨_,rfl⟩
    have hqq:((nrm x).toList==(nrm y).toList)=q:=by rw[hq];rfl
    have HQ:=qh hq
    clear hq;go_wp2_with fail
    refine wp_region_quiet_below (by kernel_rfl) (by kernel_rfl) ?_
    repeat (quiet_step ((go_at_call 216;first|(with_reducible exact C1.out _ _)|(with_reducible exact C2.out _ _))))
    refine wpQuiet_nil ?_
    intro w7 hw7
    obtain⟨⟨dq,osq⟩,hw7⟩:=hw7
    have hup7:Up wr w7:=by rw[hw7];exact below_regrown _ _ _
    clear hw7 Z0 Y0;cases q
    ·go_wp2
     go_ret;exact⟨ret_bool (alL_no HX.out HY.out HQ.out.symm).symm,hup.trans hup7⟩
    ·go_wp2
     go_roundw
     case rel=>exact⟨k+1,by omega,by go_num,al_step HT.out HX.out HY.out HQ.out.symm,hup.trans hup7⟩
     case measure=>simp[intOf];omega
   ·have HE:=qh (alL_end (show a.length≤k by omega) HL.out HT.out)
    go_wp2;go_ret;exact⟨ret_bool HE.out.symm,hup⟩
 ·have hlb:((a.length:Int) != (b.length:Int))=true:=by simp;omega
  have HE:=qh (alL_len hl)
  clear hl ha hb;go_enter Tryz.func177,Tryz.ntmps177
  go_wp2;go_ret;exact⟨ret_bool HE.out.symm,Up.refl _⟩
theorem equalAlike_any(A B:Option Addr)(a b:List ByteArray)(ca cb lo hi lo' hi':Nat)(w:World)(hr:RdT w lo hi A a)(hhi:hi≤w.heap.size)(hr':RdT w lo' hi' B b)(hhi':hi'≤w.heap.size)
 (ha:∀x∈a,x.size<32) (hb:∀x∈b,x.size<32) (hn:a.length≤2000000) (_hn':b.length≤2000000) (fb:FuncId) (hent:∀(args:Array Value) (w:World),(callFunc fb args).run Tryz.prog w=.ok (.enter fb args) w)
 (hf:∀x y w1,x.size<32→y.size<32→Calls Tryz.prog fb #[.string x,.string y] w1 fun e w'=>e=.returned (.bool (alkB x y))∧Up w1 w') :
 Calls Tryz.prog 201 #[.slice A a.length ca,.slice B b.length cb,.func (.func fb) #[] #[]] w fun e w'=>e=.returned (.bool (alL a b))∧Up w w':=by
 have hnot:∀(x:Bool) (w:World),(Op.unary .not (.bool x)).run Tryz.prog w=.ok (.bool (!x)) w:=fun _ _=>rfl
 have HF:=qh hf
 clear hf;by_cases hl:a.length=b.length
 ·have hlb:((a.length:Int) != (b.length:Int))=false:=by rw[hl];simp
  have HL:=qh hl
  have HA:=qh ha
  have HB:=qh hb
  clear hl ha hb;go_enter Tryz.func201,Tryz.ntmps201
  go_wp2;go_loopw [7,8,9,17] (fun _ _ _ i wr=>∃k:Nat,k≤a.length∧i=.int .i64 k∧(a.take k).map nrm=(b.take k).map nrm∧Up w wr) (fun _ _ _ i _=>a.length-(intOf i).toNat)
  case atStart=>exact⟨0,Nat.zero_le _,rfl,rfl,Up.refl _⟩
  case round =>
   obtain⟨k,hk,rfl,ht,hup⟩:=hrel
   have HT:=qh ht
   clear ht;by_cases hlt:k<a.length
   ·have hlt':k<b.length:=by have:=HL.out;omega
    obtain⟨b1,o1,x,rfl,-,-,hx,z0⟩:=(hr.up hup hhi).txt hlt
    obtain⟨b2,o2,y,rfl,-,-,hy,y0⟩:=(hr'.up hup hhi').txt hlt'
    have hxs:=HA.out x (List.mem_of_getElem? hx)
    have hys:=HB.out y (List.mem_of_getElem? hy)
    have HX:=qh hx
    have HY:=qh hy
    have C1:=qh (HF.out x y wr hxs hys)
    clear hx hy;obtain⟨q,hq⟩:∃q,q=alkB x y:=⟨_,rfl⟩
    rw[← hq]at C1;have HQ:=qh hq
    clear hq;go_wp2_with fail
    refine C1.out.mono ?_
    rintro e w7 ⟨rfl,hup7⟩
    cases q
    ·go_wp2
     go_ret;exact⟨ret_bool (alL_no HX.out HY.out HQ.out.symm).symm,hup.trans hup7⟩
    ·go_wp2
     go_roundw
     case rel=>exact⟨k+1,by omega,by go_num,al_step HT.out HX.out HY.out HQ.out.symm,hup.trans hup7⟩
     case measure=>simp[intOf];omega
   ·have HE:=qh (alL_end (show a.length≤k by omega) HL.out HT.out)
    go_wp2;go_ret;exact⟨ret_bool HE.out.symm,hup⟩
 ·have hlb:((a.length:Int) != (b.length:Int))=true:=by simp;omega
  have HE:=qh (alL_len hl)
  clear hl ha hb;go_enter Tryz.func201,Tryz.ntmps201
  go_wp2;go_ret;exact⟨ret_bool HE.out.symm,Up.refl _⟩
theorem allAlike_any(A B:Option Addr)(a b:List ByteArray)(ca cb lo hi lo' hi':Nat)(w:World)(hr:RdT w lo hi A a)(hhi:hi≤w.heap.size)(hr':RdT w lo' hi' B b)(hhi':hi'≤w.heap.size)
 (ha:∀x∈a,x.size<32) (hb:∀x∈b,x.size<32) (hn:a.length≤2000000) (hn':b.length≤2000000) :
 Calls Tryz.prog 155 #[.slice A a.length ca,.slice B b.length cb] w fun e w'=>e=.returned (.bool (alL a b))∧Up w w':=by
 have H:=qh (equalAlike_any A B a b ca cb lo hi lo' hi' w hr hhi hr' hhi' ha hb hn hn' 202 (fun _ _=>by kernel_rfl) (fun x y w1 hx hy=>alike_any x y w1 hx hy))
 go_enter Tryz.func155,Tryz.ntmps155
 go_wp2_with fail
 refine H.out.mono ?_
 rintro e w7 ⟨rfl,hup7⟩
 go_wp2;go_ret;exact⟨rfl,hup7⟩
end Go.Proofs.YtaoplcclemckjaaGreatDoor
