/- placesWith: the places at which a function value answers yes. -/
import Derived.Test.YtihcmhmanfobcaaGreatDoorProg
import Derived.Test.YtihcmhmanfobcaaGreatDoorLib
import Derived.Test.YtihcmhmanfobcaaGreatDoorVc
import Derived.Lib.SliceRun
set_option maxHeartbeats 1000000
namespace Go.Proofs.YtihcmhmanfobcaaGreatDoor
open Go.RowKit Go.Sort
theorem infoIntP:(Tryz.prog.info? 2).map (fun i=>(i.zero,i.size,i.bytes))=some (some (.int .i64 0),1,8):=by kernel_rfl
def pl(p:Nat→Bool)(n:Nat):List Int:=((List.range n).filter p).map fun(j:Nat)=>(j:Int)
def NmS(l:List Sp):Prop:=l.Pairwise (fun a b=>a.2+2≤b.1)∧∀s∈l,0≤s.1∧s.1≤s.2∧s.2≤730499
def DyS(l:List Sp):Prop:=∀s∈l,0≤s.1∧s.1≤s.2∧s.2≤730499
theorem stpS_nm{o:List Sp}{s:Sp}(h:NmS o)(hs:0≤s.1∧s.1≤s.2∧s.2≤730499):NmS (stpS o s):=by
 rcases List.eq_nil_or_concat o with rfl|⟨o,z,rfl⟩<;>try rw[List.concat_eq_append]at *
 ·rw[stpS_nil]
  exact⟨by simp,fun x hx=>by rw[List.mem_singleton.1 hx];exact hs⟩
 ·obtain⟨hp,hd⟩:=h
  obtain⟨p1,p2,p3⟩:=List.pairwise_append.1 hp
  have hz:=hd z (by simp)
  rw[stpS_snoc];split
  ·refine⟨List.pairwise_append.2 ⟨p1,by simp,fun a ha b hb=>?_⟩,fun x hx=>?_⟩
   ·rw[List.mem_singleton.1 hb];exact p3 a ha z (by simp)
   ·rcases List.mem_append.1 hx with hx|hx
    ·exact hd x (by simp[hx])
    ·rw[List.mem_singleton.1 hx];simp only[];omega
  ·refine⟨List.pairwise_append.2 ⟨hp,by simp,fun a ha b hb=>?_⟩,fun x hx=>?_⟩
   ·rw[List.mem_singleton.1 hb]
    rcases List.mem_append.1 ha with ha|ha
    ·have:=p3 a ha z (by simp);omega
    ·rw[List.mem_singleton.1 ha];omega
   ·rcases List.mem_append.1 hx with hx|hx
    ·exact hd x hx
    ·rw[List.mem_singleton.1 hx];exact hs
theorem foldS_nm:∀(l o:List Sp),NmS o→DyS l→NmS (l.foldl stpS o)
 | [],_,h,_=>h
 | x :: l,o,h,hd=>foldS_nm l (stpS o x) (stpS_nm h (hd x (by simp))) (fun s hs=>hd s (by simp[hs]))
theorem unL_nm{l:List Sp}(h:DyS l):NmS (unL l):=foldS_nm _ _ ⟨by simp,by simp⟩ (fun s hs=>h s ((srtS_perm l).mem_iff.1 hs))
theorem metL_mem:∀(k:Nat) (a b:List Sp),a.length+b.length≤k→∀s∈metL a b,∃x∈a,∃y∈b,s=(max x.1 y.1,min x.2 y.2)∧s.1≤s.2
 | k,[],b,_,s,hs=>by rw[metL_nil_l]at hs;cases hs
 | k,x :: p,[],_,s,hs=>by rw[metL_nil_r]at hs;cases hs
 | 0,x :: p,y :: q,h,s,hs=>by simp at h
 | k+1,x :: p,y :: q,h,s,hs=>by
   rw[metL_cons]at hs;rcases List.mem_append.1 hs with hs|hs
   ·split at hs
    ·rw[List.mem_singleton.1 hs]
     exact⟨x,by simp,y,by simp,rfl,by assumption⟩
    ·cases hs
   ·simp only[List.length_cons]at h
    split at hs
    ·obtain⟨x',hx,y',hy,h1⟩:=metL_mem k p (y :: q) (by simp only[List.length_cons];omega) s hs
     exact⟨x',by simp[hx],y',hy,h1⟩
    ·obtain⟨x',hx,y',hy,h1⟩:=metL_mem k (x :: p) q (by simp only[List.length_cons];omega) s hs
     exact⟨x',hx,y',by simp[hy],h1⟩
theorem nm_tail{x:Sp}{p:List Sp}(h:NmS (x :: p)):NmS p:=⟨(List.pairwise_cons.1 h.1).2,fun s hs=>h.2 s (by simp[hs])⟩
theorem nm_head{x:Sp}{p:List Sp}(h:NmS (x :: p)):∀y∈p,x.2+2≤y.1:=(List.pairwise_cons.1 h.1).1
theorem nm_first{x:Sp}{p:List Sp}(h:NmS (x :: p)):∀y∈x :: p,x.1≤y.1:=fun y hy=>by
 rcases List.mem_cons.1 hy with rfl|hy
 ·exact Int.le_refl _
 ·have h1:=nm_head h y hy
  have h2:=h.2 x (by simp)
  omega
theorem metL_nm:∀(k:Nat) (a b:List Sp),a.length+b.length≤k→NmS a→NmS b→NmS (metL a b)
 | k,[],b,_,_,_=>by rw[metL_nil_l];exact⟨by simp,by simp⟩
 | k,x :: p,[],_,_,_=>by rw[metL_nil_r];exact⟨by simp,by simp⟩
 | 0,x :: p,y :: q,h,_,_=>by simp at h
 | k+1,x :: p,y :: q,h,ha,hb=>by
   simp only[List.length_cons]at h
   have hx:=ha.2 x (by simp)
   have hy:=hb.2 y (by simp)
   rw[metL_cons];have hhead:∀s∈(if max x.1 y.1≤min x.2 y.2 then [(max x.1 y.1,min x.2 y.2)] else []:List Sp),s=(max x.1 y.1,min x.2 y.2)∧max x.1 y.1≤min x.2 y.2:=fun s hs=>by
    split at hs
    ·exact⟨List.mem_singleton.1 hs,by assumption⟩
    ·cases hs
   have hpw:List.Pairwise (fun a b:Sp=>a.2+2≤b.1) (if max x.1 y.1≤min x.2 y.2 then [(max x.1 y.1,min x.2 y.2)] else []):=by split<;>simp
   by_cases hxy:x.2<y.2
   ·rw[if_pos hxy]
    have ih:=metL_nm k p (y :: q) (by simp only[List.length_cons];omega) (nm_tail ha) hb
    refine⟨List.pairwise_append.2 ⟨hpw,ih.1,fun s hs t ht=>?_⟩,fun s hs=>?_⟩
    ·obtain⟨rfl,h1⟩:=hhead s hs
     obtain⟨x',hx',y',hy',rfl,-⟩:=metL_mem _ p (y :: q) (Nat.le_refl _) t ht
     have:=nm_head ha x' hx'
     simp only[];omega
    ·rcases List.mem_append.1 hs with hs|hs
     ·obtain⟨rfl,h1⟩:=hhead s hs
      simp only[];omega
     ·exact ih.2 s hs
   ·rw[if_neg hxy]
    have ih:=metL_nm k (x :: p) q (by simp only[List.length_cons];omega) ha (nm_tail hb)
    refine⟨List.pairwise_append.2 ⟨hpw,ih.1,fun s hs t ht=>?_⟩,fun s hs=>?_⟩
    ·obtain⟨rfl,h1⟩:=hhead s hs
     obtain⟨x',hx',y',hy',rfl,-⟩:=metL_mem _ (x :: p) q (Nat.le_refl _) t ht
     have:=nm_head hb y' hy'
     simp only[];omega
    ·rcases List.mem_append.1 hs with hs|hs
     ·obtain⟨rfl,h1⟩:=hhead s hs
      simp only[];omega
     ·exact ih.2 s hs
theorem hasL_iff{l:List Sp}{n:Int}:hasL l n=true ↔ ∃s∈l,s.1≤n∧n≤s.2:=by
 unfold hasL
 rw[List.any_eq_true];constructor
 ·rintro⟨s,hs,h⟩
  rw[Bool.and_eq_true,decide_eq_true_eq,decide_eq_true_eq]at h;exact⟨s,hs,h⟩
 ·rintro⟨s,hs,h⟩
  exact⟨s,hs,by rw[Bool.and_eq_true,decide_eq_true_eq,decide_eq_true_eq];exact h⟩
theorem metL_has1{a b:List Sp}{n:Int}(h:hasL (metL a b) n=true):hasL a n=true∧hasL b n=true:=by
 obtain⟨s,hs,h1,h2⟩:=hasL_iff.1 h
 obtain⟨x,hx,y,hy,rfl,-⟩:=metL_mem _ a b (Nat.le_refl _) s hs
 simp only[]at h1 h2
 exact⟨hasL_iff.2 ⟨x,hx,by omega,by omega⟩,hasL_iff.2 ⟨y,hy,by omega,by omega⟩⟩
theorem metL_has2{n:Int}:∀(k:Nat) (a b:List Sp),a.length+b.length≤k→NmS a→NmS b→hasL a n=true→hasL b n=true→hasL (metL a b) n=true
 | k,[],b,_,_,_,h,_=>by simp[hasL]at h
 | k,x :: p,[],_,_,_,_,h=>by simp[hasL]at h
 | 0,x :: p,y :: q,h,_,_,_,_=>by simp at h
 | k+1,x :: p,y :: q,h,ha,hb,h1,h2=>by
   simp only[List.length_cons]at h
   obtain⟨s,hs,s1,s2⟩:=hasL_iff.1 h1
   obtain⟨t,ht,t1,t2⟩:=hasL_iff.1 h2
   rw[metL_cons];have hx:=ha.2 x (by simp)
   have hy:=hb.2 y (by simp)
   rcases List.mem_cons.1 hs with rfl|hs
   ·rcases List.mem_cons.1 ht with rfl|ht
    ·refine hasL_iff.2 ⟨(max s.1 t.1,min s.2 t.2),List.mem_append_left _ ?_,by simp only[];omega,by simp only[];omega⟩
     rw[if_pos (by omega)];simp
    ·have h3:=nm_head hb t ht
     rw[if_neg (show ¬ s.2<y.2 by omega)]
     have ih:=metL_has2 k (s :: p) q (by simp only[List.length_cons];omega) ha (nm_tail hb) (hasL_iff.2 ⟨s,by simp,s1,s2⟩) (hasL_iff.2 ⟨t,ht,t1,t2⟩)
     obtain⟨r,hr,r1⟩:=hasL_iff.1 ih
     exact hasL_iff.2 ⟨r,List.mem_append_right _ hr,r1⟩
   ·have h3:=nm_head ha s hs
    by_cases hxy:x.2<y.2
    ·rw[if_pos hxy]
     have ih:=metL_has2 k p (y :: q) (by simp only[List.length_cons];omega) (nm_tail ha) hb (hasL_iff.2 ⟨s,hs,s1,s2⟩) (hasL_iff.2 ⟨t,ht,t1,t2⟩)
     obtain⟨r,hr,r1⟩:=hasL_iff.1 ih
     exact hasL_iff.2 ⟨r,List.mem_append_right _ hr,r1⟩
    ·rw[if_neg hxy]
     have htq:t∈q:=by
      rcases List.mem_cons.1 ht with rfl|ht
      ·omega
      ·exact ht
     have ih:=metL_has2 k (x :: p) q (by simp only[List.length_cons];omega) ha (nm_tail hb) (hasL_iff.2 ⟨s,by simp[hs],s1,s2⟩) (hasL_iff.2 ⟨t,htq,t1,t2⟩)
     obtain⟨r,hr,r1⟩:=hasL_iff.1 ih
     exact hasL_iff.2 ⟨r,List.mem_append_right _ hr,r1⟩
theorem metL_has{a b:List Sp}{n:Int}(ha:NmS a)(hb:NmS b):hasL (metL a b) n=(hasL a n && hasL b n):=by
 rcases h:hasL (metL a b) n with _|_
 ·rcases h1:hasL a n with _|_
  ·rfl
  ·rcases h2:hasL b n with _|_
   ·rfl
   ·rw[metL_has2 _ a b (Nat.le_refl _) ha hb h1 h2]at h;cases h
 ·obtain⟨h1,h2⟩:=metL_has1 h
  rw[h1,h2];rfl
theorem l13All_any(w:World):Calls Tryz.prog 97 #[] w fun e w'=>∃v,e=.returned v∧w'.ownsRow w.heap.size 84 2 v [((0:Int),(730499:Int))].length ([((0:Int),(730499:Int))].flatMap spC)∧Up w w':=by
 have hown:=World.ownsRow_lit (base:=w.heap.size) (e:=84) (size:=2) w #[.int .i64 0,.int .i64 730499] 1 (Nat.le_refl _) (by simp[maxLen]) rfl
 go_enter Tryz.func97,Tryz.ntmps97
 go_wp2;go_ret;exact⟨_,rfl,hown,(Up.refl w).allocs _⟩
end Go.Proofs.YtihcmhmanfobcaaGreatDoor
