/- Sets of days: spans far apart are known by their days; the set of the days for which a condition holds. -/
import Derived.Test.YtihcmhmanfobcaaGreatDoorDel
import Derived.Test.YtihcmhmanfobcaaGreatDoorSpUni
import Derived.Test.YtihcmhmanfobcaaGreatDoorSpMetS
import Derived.Test.YtihcmhmanfobcaaGreatDoorSpMetI
namespace Go.Proofs.YtihcmhmanfobcaaGreatDoor
def inD(n:Int):Bool:=decide (0≤n) && decide (n≤730499)
theorem inD_iff{n:Int}:inD n=true ↔ 0≤n∧n≤730499:=by simp[inD]
theorem hasL_cons(x:Sp)(p:List Sp)(n:Int):hasL (x :: p) n=((decide (x.1≤n) && decide (n≤x.2)) || hasL p n):=rfl
theorem hasL_app(p q:List Sp)(n:Int):hasL (p++q) n=(hasL p n || hasL q n):=by simp[hasL]
theorem nm_lo{x:Sp}{p:List Sp}(h:NmS (x :: p)){n:Int}(hn:n≤x.2+1):hasL p n=false:=by
 rcases hh:hasL p n with _|_
 ·rfl
 ·obtain⟨s,hs,h1,h2⟩:=hasL_iff.1 hh
  have:=nm_head h s hs
  omega
theorem nm_ext:∀(a b:List Sp),NmS a→NmS b→(∀n,hasL a n=hasL b n)→a=b
 | [],[],_,_,_=>rfl
 | [],y :: q,_,hb,h=>by
   have hy:=hb.2 y (by simp)
   have h1:hasL ([]:List Sp) y.1=true:=by rw[h];exact hasL_iff.2 ⟨y,by simp,Int.le_refl _,hy.2.1⟩
   simp[hasL]at h1
 | x :: p,[],ha,_,h=>by
   have hx:=ha.2 x (by simp)
   have h1:hasL ([]:List Sp) x.1=true:=by rw[← h];exact hasL_iff.2 ⟨x,by simp,Int.le_refl _,hx.2.1⟩
   simp[hasL]at h1
 | x :: p,y :: q,ha,hb,h=>by
   have hx:=ha.2 x (by simp)
   have hy:=hb.2 y (by simp)
   have e1:x.1=y.1:=by
    have h1:hasL (y :: q) x.1=true:=by rw[← h];exact hasL_iff.2 ⟨x,by simp,Int.le_refl _,hx.2.1⟩
    have h2:hasL (x :: p) y.1=true:=by rw[h];exact hasL_iff.2 ⟨y,by simp,Int.le_refl _,hy.2.1⟩
    obtain⟨s,hs,s1,s2⟩:=hasL_iff.1 h1
    obtain⟨t,ht,t1,t2⟩:=hasL_iff.1 h2
    have:=nm_first hb s hs
    have:=nm_first ha t ht
    omega
   have e2:x.2=y.2:=by
    have h1:=h (x.2+1)
    have h2:=h (y.2+1)
    rw[hasL_cons,hasL_cons,nm_lo ha (by omega)]at h1
    rw[hasL_cons,hasL_cons,nm_lo hb (by omega)]at h2
    rcases Int.lt_trichotomy x.2 y.2 with h3|h3|h3
    ·rw[decide_eq_true (show y.1≤x.2+1 by omega),decide_eq_true (show x.2+1≤y.2 by omega),decide_eq_false (show ¬ x.2+1≤x.2 by omega)]at h1
     simp at h1
    ·exact h3
    ·rw[decide_eq_true (show x.1≤y.2+1 by omega),decide_eq_true (show y.2+1≤x.2 by omega),decide_eq_false (show ¬ y.2+1≤y.2 by omega)]at h2
     simp at h2
   obtain rfl:x=y:=Prod.ext e1 e2
   rw[nm_ext p q (nm_tail ha) (nm_tail hb) fun n=>?_]
   rcases Int.lt_or_le x.2 n with h1|h1
   ·have h2:=h n
    rw[hasL_cons,hasL_cons,decide_eq_false (show ¬ n≤x.2 by omega)]at h2
    simpa using h2
   ·rw[nm_lo ha (by omega),nm_lo hb (by omega)]
def dstp(o:List Sp)(n:Int):List Sp :=
 match o.getLast? with
 | some z=>if z.2=n-1 then o.dropLast++[(z.1,n)] else o++[(n,n)]
 | none=>o++[(n,n)]
theorem dstp_nil(n:Int):dstp [] n=[(n,n)]:=rfl
theorem dstp_snoc(o:List Sp)(z:Sp)(n:Int):dstp (o++[z]) n=if z.2=n-1 then o++[(z.1,n)] else o++[z]++[(n,n)]:=by
 unfold dstp
 rw[List.getLast?_append,List.getLast?_singleton];simp
def daysF(p:Int→Bool)(a:Int):Nat→List Sp
 | 0=>[]
 | k+1=>if p (a+k)=true then dstp (daysF p a k) (a+k) else daysF p a k
theorem daysF_s(p:Int→Bool)(a:Int)(k:Nat):daysF p a (k+1)=if p (a+k)=true then dstp (daysF p a k) (a+k) else daysF p a k:=rfl
theorem dstp_has{o:List Sp}{m n:Int}(ho:∀s∈o,s.1≤s.2∧s.2<m):hasL (dstp o m) n=(hasL o n || decide (n=m)):=by
 rcases List.eq_nil_or_concat o with rfl|⟨o,z,rfl⟩<;>try rw[List.concat_eq_append]at *
 ·rw[dstp_nil,hasL_cons]
  simp only[hasL,List.any_nil,Bool.or_false,Bool.false_or]
  rw[Bool.eq_iff_iff];simp;omega
 ·have hz:=ho z (by simp)
  rw[dstp_snoc];split
  ·rw[hasL_app,hasL_app,hasL_cons,hasL_cons,Bool.or_assoc]
   congr 1
   simp only[hasL,List.any_nil,Bool.or_false]
   rw[Bool.eq_iff_iff];simp;omega
  ·rw[hasL_app,hasL_cons]
   congr 1
   simp only[hasL,List.any_nil,Bool.or_false]
   rw[Bool.eq_iff_iff];simp;omega
theorem dstp_nm{o:List Sp}{m:Int}(h:NmS o)(ho:∀s∈o,s.2<m)(h0:0≤m)(h1:m≤730499):NmS (dstp o m)∧∀s∈dstp o m,s.2<m+1:=by
 rcases List.eq_nil_or_concat o with rfl|⟨o,z,rfl⟩<;>try rw[List.concat_eq_append]at *
 ·rw[dstp_nil]
  exact⟨⟨by simp,fun x hx=>by rw[List.mem_singleton.1 hx];exact⟨h0,Int.le_refl _,h1⟩⟩,fun x hx=>by rw[List.mem_singleton.1 hx];simp only[];omega⟩
 ·obtain⟨hp,hd⟩:=h
  obtain⟨p1,p2,p3⟩:=List.pairwise_append.1 hp
  have hz:=hd z (by simp)
  have hzm:=ho z (by simp)
  rw[dstp_snoc];split
  ·refine⟨⟨List.pairwise_append.2 ⟨p1,by simp,fun a ha b hb=>?_⟩,fun x hx=>?_⟩,fun x hx=>?_⟩
   ·rw[List.mem_singleton.1 hb];exact p3 a ha z (by simp)
   ·rcases List.mem_append.1 hx with hx|hx
    ·exact hd x (by simp[hx])
    ·rw[List.mem_singleton.1 hx];simp only[];omega
   ·rcases List.mem_append.1 hx with hx|hx
    ·have:=ho x (by simp[hx]);omega
    ·rw[List.mem_singleton.1 hx];simp only[];omega
  ·refine⟨⟨List.pairwise_append.2 ⟨hp,by simp,fun a ha b hb=>?_⟩,fun x hx=>?_⟩,fun x hx=>?_⟩
   ·rw[List.mem_singleton.1 hb]
    have h2:=hd a ha
    rcases List.mem_append.1 ha with ha|ha
    ·have:=p3 a ha z (by simp);simp only[];omega
    ·rw[List.mem_singleton.1 ha];simp only[];omega
   ·rcases List.mem_append.1 hx with hx|hx
    ·exact hd x hx
    ·rw[List.mem_singleton.1 hx];exact⟨h0,Int.le_refl _,h1⟩
   ·rcases List.mem_append.1 hx with hx|hx
    ·have:=ho x hx;omega
    ·rw[List.mem_singleton.1 hx];simp only[];omega
theorem daysF_nm(p:Int→Bool){a:Int}(h0:0≤a):∀(k:Nat),a+k≤730500→NmS (daysF p a k)∧(∀s∈daysF p a k,s.2<a+k)∧∀n,hasL (daysF p a k) n=(decide (a≤n) && decide (n<a+k) && p n)
 | 0,_=>⟨⟨by simp[daysF],by simp[daysF]⟩,by simp[daysF],fun n=>by
  rw[show daysF p a 0=[] from rfl,show hasL [] n=false from rfl]
  rcases Int.lt_or_le n a with h|h
  ·simp;omega
  ·simp;omega⟩
 | k+1,hk=>by
   obtain⟨i1,i2,i3⟩:=daysF_nm p h0 k (by omega)
   rw[daysF_s];by_cases hp:p (a+k)=true
   ·rw[if_pos hp]
    obtain⟨j1,j2⟩:=dstp_nm i1 i2 (by omega) (show a+(k:Int)≤730499 by omega)
    refine⟨j1,fun s hs=>by have:=j2 s hs;omega,fun n=>?_⟩
    rw[dstp_has (fun s hs=>⟨(i1.2 s hs).2.1,i2 s hs⟩),i3]
    by_cases hn:n=a+k
    ·subst hn;rw[hp];simp;omega
    ·rw[decide_eq_false hn,Bool.or_false];congr 2;rw[Bool.eq_iff_iff];simp;omega
   ·rw[if_neg hp]
    refine⟨i1,fun s hs=>by have:=i2 s hs;omega,fun n=>?_⟩
    rw[i3];by_cases hn:n=a+k
    ·subst hn;rw[show p (a+(k:Int))=false by simpa using hp];simp
    ·congr 2;rw[Bool.eq_iff_iff];simp;omega
noncomputable def dset (p:Int→Bool):List Sp:=Classical.epsilon fun l=>NmS l∧∀n,hasL l n=(inD n && p n)
theorem dset_sp(p:Int→Bool):NmS (dset p)∧∀n,hasL (dset p) n=(inD n && p n):=by
 refine Classical.epsilon_spec (p:=fun l=>NmS l∧∀n,hasL l n=(inD n && p n)) ⟨daysF p 0 730500,?_⟩
 obtain⟨h1,-,h2⟩:=daysF_nm p (a:=0) (Int.le_refl _) 730500 (by omega)
 refine⟨h1,fun n=>?_⟩
 rw[h2,inD];congr 2;rw[Bool.eq_iff_iff];simp;omega
theorem dset_nm(p:Int→Bool):NmS (dset p):=(dset_sp p).1
theorem dset_has(p:Int→Bool)(n:Int):hasL (dset p) n=(inD n && p n):=(dset_sp p).2 n
theorem dset_eq{l:List Sp}{p:Int→Bool}(h:NmS l)(h2:∀n,hasL l n=(inD n && p n)):l=dset p :=
 nm_ext _ _ h (dset_nm p) fun n=>by rw[h2,dset_has]
theorem dset_eq'{l:List Sp}{p:Int→Bool}(h:NmS l)(h2:∀n,0≤n→n≤730499→hasL l n=p n):l=dset p :=
 dset_eq h fun n=>by
  rcases hn:inD n with _|_
  ·rw[Bool.false_and]
   rcases hh:hasL l n with _|_
   ·rfl
   ·obtain⟨s,hs,s1,s2⟩:=hasL_iff.1 hh
    have:=h.2 s hs
    rw[inD_iff.2 ⟨by omega,by omega⟩]at hn;cases hn
  ·rw[Bool.true_and];exact h2 n (inD_iff.1 hn).1 (inD_iff.1 hn).2
theorem dset_congr{p q:Int→Bool}(h:∀n,0≤n→n≤730499→p n=q n):dset p=dset q :=
 dset_eq' (dset_nm p) fun n h0 h1=>by rw[dset_has,inD_iff.2 ⟨h0,h1⟩,Bool.true_and];exact h n h0 h1
theorem dset_win(p:Int→Bool){a:Int}{k:Nat}(h0:0≤a)(hk:a+k≤730500):daysF p a k=dset fun n=>(decide (a≤n) && decide (n<a+k)) && p n :=
 dset_eq' (daysF_nm p h0 k hk).1 fun n _ _=>(daysF_nm p h0 k hk).2.2 n
theorem metL_dset(p q:Int→Bool):metL (dset p) (dset q)=dset fun n=>p n && q n :=
 dset_eq (metL_nm _ _ _ (Nat.le_refl _) (dset_nm p) (dset_nm q)) fun n=>by
  rw[metL_has (dset_nm p) (dset_nm q),dset_has,dset_has];cases inD n<;>simp
theorem dset_one{a b:Int}(h0:0≤a)(h1:a≤b)(h2:b≤730499):[(a,b)]=dset fun n=>decide (a≤n) && decide (n≤b) :=
 dset_eq' ⟨by simp,fun s hs=>by rw[List.mem_singleton.1 hs];exact⟨h0,h1,h2⟩⟩ fun n _ _=>by simp[hasL]
theorem dset_all:[((0:Int),(730499:Int))]=dset fun _=>true :=
 dset_eq' ⟨by simp,fun s hs=>by rw[List.mem_singleton.1 hs];simp only[];omega⟩ fun n h0 h1=>by simp[hasL];omega
theorem stpS_has'{o:List Sp}{s:Sp}{n:Int}(_hs:s.1≤s.2)(ho:∀x∈o,x.1≤s.1∧x.1≤x.2):hasL (stpS o s) n=(hasL o n ||(decide (s.1≤n) && decide (n≤s.2))):=by
 rcases List.eq_nil_or_concat o with rfl|⟨o,z,rfl⟩<;>try rw[List.concat_eq_append]at *
 ·rw[stpS_nil,hasL_cons];simp[hasL]
 ·have hz:=ho z (by simp)
  rw[stpS_snoc];split
  ·rw[hasL_app,hasL_app,hasL_cons,hasL_cons,Bool.or_assoc]
   congr 1
   simp only[hasL,List.any_nil,Bool.or_false]
   rw[Bool.eq_iff_iff];simp;omega
  ·rw[hasL_app,hasL_cons]
   congr 1
   simp[hasL]
theorem stpS_fst{o:List Sp}{s y:Sp}(ho:∀x∈o,x.1≤y.1∧x.1≤x.2)(hs:s.1≤y.1)(hs2:s.1≤s.2):∀x∈stpS o s,x.1≤y.1∧x.1≤x.2:=by
 rcases List.eq_nil_or_concat o with rfl|⟨o,z,rfl⟩<;>try rw[List.concat_eq_append]at *
 ·rw[stpS_nil]
  intro x hx;rw[List.mem_singleton.1 hx];exact⟨hs,hs2⟩
 ·rw[stpS_snoc]
  have hz:=ho z (by simp)
  split
  ·intro x hx
   rcases List.mem_append.1 hx with hx|hx
   ·exact ho x (by simp[hx])
   ·rw[List.mem_singleton.1 hx];simp only[];omega
  ·intro x hx
   rcases List.mem_append.1 hx with hx|hx
   ·exact ho x hx
   ·rw[List.mem_singleton.1 hx];exact⟨hs,hs2⟩
theorem foldS_has'{n:Int}:∀(l o:List Sp),SrtS l→OkS l→(∀x∈o,x.1≤x.2)→(∀x∈o,∀y∈l,x.1≤y.1)→hasL (l.foldl stpS o) n=(hasL o n || hasL l n)
 | [],o,_,_,_,_=>by simp[hasL]
 | s :: l,o,hs,ho,h1,h2=>by
   have hp:=List.pairwise_cons.1 hs
   have hss:=ho s (by simp)
   rw[List.foldl_cons,foldS_has' l (stpS o s) hp.2 (fun x hx=>ho x (by simp[hx]))
    (fun x hx=>(stpS_fst (y:=s) (fun x hx=>⟨h2 x hx s (by simp),h1 x hx⟩) (Int.le_refl _) hss x hx).2)
    (fun x hx y hy=>(stpS_fst (y:=y) (fun x hx=>⟨h2 x hx y (by simp[hy]),h1 x hx⟩) (hp.1 y hy) hss x hx).1),
    stpS_has' hss (fun x hx=>⟨h2 x hx s (by simp),h1 x hx⟩),hasL_cons,Bool.or_assoc]
theorem unL_has'{l:List Sp}(ho:OkS l)(n:Int):hasL (unL l) n=hasL l n:=by
 unfold unL
 rw[foldS_has' _ _ (srtS_sorted l) (fun s hs=>ho s ((srtS_perm l).mem_iff.1 hs)) (by simp) (by simp)]
 rw[show hasL [] n=false from rfl,Bool.false_or,Bool.eq_iff_iff,hasL_iff,hasL_iff]
 exact⟨fun⟨s,hs,h⟩=>⟨s,(srtS_perm l).mem_iff.1 hs,h⟩,fun⟨s,hs,h⟩=>⟨s,(srtS_perm l).mem_iff.2 hs,h⟩⟩
theorem unL_dset{l:List Sp}(h:DyS l):unL l=dset (hasL l) :=
 dset_eq' (unL_nm h) fun n _ _=>unL_has' (fun s hs=>(h s hs).2.1) n
theorem nm_win{l:List Sp}(h:NmS l):∀{a b:Int},(∀s∈l,a≤s.1∧s.2≤b)→a≤b+2→2*(l.length:Int)≤b-a+2:=by
 induction l with
 | nil=>intro a b _ h1;simp;omega
 | cons x p ih =>
   intro a b hs _
   have hx:=hs x (by simp)
   have hxx:=h.2 x (by simp)
   have:=ih (nm_tail h) (a:=x.2+2) (b:=b) (fun s hs'=>⟨nm_head h s hs',(hs s (by simp[hs'])).2⟩) (by omega)
   simp only[List.length_cons];push_cast;omega
theorem dset_len{p:Int→Bool}{a b:Int}(h:∀n,0≤n→n≤730499→p n=true→a≤n∧n≤b)(hab:a≤b+2):2*((dset p).length:Int)≤b-a+2:=by
 refine nm_win (dset_nm p) (fun s hs=>?_) hab
 have hd:=(dset_nm p).2 s hs
 have h1:=dset_has p s.1
 have h2:=dset_has p s.2
 rw[hasL_iff.2 ⟨s,hs,Int.le_refl _,hd.2.1⟩,inD_iff.2 ⟨hd.1,by omega⟩,Bool.true_and]at h1
 rw[hasL_iff.2 ⟨s,hs,hd.2.1,Int.le_refl _⟩,inD_iff.2 ⟨by omega,hd.2.2⟩,Bool.true_and]at h2
 exact⟨(h s.1 hd.1 (by omega) h1.symm).1,(h s.2 (by omega) hd.2.2 h2.symm).2⟩
end Go.Proofs.YtihcmhmanfobcaaGreatDoor
