/- Marks on deeds, formulas, phrases and evidence that the call itself made, and whether they are still held. -/
import Derived.Test.YtihcmhmanfobcaaGreatDoorWmC
set_option maxHeartbeats 8000000
set_option maxRecDepth 100000
namespace Go.Proofs.YtihcmhmanfobcaaGreatDoor
open Go.RowKit Go.Sort
section
variable {α:Type}
theorem flat_set{f:α→List Value}{m:Nat}(hf:∀x,(f x).length=m):∀(l:List α) (i:Nat) (x y:α) (j:Nat) (v:Value),l[i]?=some x→j<m→f y=(f x).set j v→(l.flatMap f).set (i*m+j) v=(l.set i y).flatMap f
 | [],i,x,y,j,v,h,_,_=>by simp at h
 | z :: l,0,x,y,j,v,h,hj,e=>by
   simp at h;subst h
   rw[List.flatMap_cons,Nat.zero_mul,Nat.zero_add,List.set_append_left _ _ (by rw[hf];exact hj),List.set_cons_zero,List.flatMap_cons,e]
 | z :: l,i+1,x,y,j,v,h,hj,e=>by
   simp at h
   rw[List.flatMap_cons,List.set_append_right _ _ (by rw[hf,Nat.add_mul];omega),hf,show(i+1)*m+j-m=i*m+j by rw[Nat.add_mul];omega,flat_set hf l i x y j v h hj e,List.set_cons_succ,List.flatMap_cons]
theorem flat_split{β:Type}(g:α→List β){l:List α}{i:Nat}{x:α}(h:l[i]?=some x):l.flatMap g=(l.take i).flatMap g++g x++(l.drop (i+1)).flatMap g:=by
 have hi:=(List.getElem?_eq_some_iff.1 h).1
 conv=>lhs;rw[← List.take_append_drop i l]
 rw[List.flatMap_append,List.drop_eq_getElem_cons hi,List.flatMap_cons,(List.getElem?_eq_some_iff.1 h).2,List.append_assoc]
theorem flat_split_set{β:Type}(g:α→List β){l:List α}{i:Nat}{x:α}(h:l[i]?=some x)(y:α):(l.set i y).flatMap g=(l.take i).flatMap g++g y++(l.drop (i+1)).flatMap g:=by
 have hi:=(List.getElem?_eq_some_iff.1 h).1
 have h2:(l.set i y)[i]?=some y:=by rw[List.getElem?_set_self (by simpa using hi)]
 rw[flat_split g h2,List.take_set_of_le (Nat.le_refl _),List.drop_set_of_lt (by omega)]
theorem set_same{l:List α}{i:Nat}{x:α}(h:l[i]?=some x):l.set i x=l:=by
 obtain⟨hj,e⟩:=List.getElem?_eq_some_iff.1 h
 rw[← e,List.set_getElem_self]
theorem flat_same{β:Type}{g:α→List β}{l:List α}{i:Nat}{x y:α}(h:l[i]?=some x)(e:g y=g x):(l.set i y).flatMap g=l.flatMap g:=by
 rw[flat_split_set g h y,e,← flat_split g h]
def rowsG(e:TypeId)(m:Nat)(f:α→List Value)(gr:α→List Rw)(s:Sl α):List Rw:=⟨e,m,s.val,s.l.length,s.l.flatMap f⟩ :: s.l.flatMap gr
variable {e:TypeId} {m:Nat} {f:α→List Value} {gr:α→List Rw} {w w':World} {base g c:Nat} {ls:List α} {j:Nat} {x y:α}
theorem rowsG.inner{s:Sl α}(ho:OwA w base (rowsG e m f gr s))(hx:s.l[j]?=some x):OwA w base (gr x):=by
 have h:OwA w base ([⟨e,m,s.val,s.l.length,s.l.flatMap f⟩]++s.l.flatMap gr):=ho
 have h2:=h.right
 rw[flat_split gr hx]at h2;exact h2.left.right
theorem rowsG.in_{A:Option Addr}(hx:ls[j]?=some x)(k:MkA w w' (gr x) (gr y))(hc:f y=f x):MkA w w' (rowsG e m f gr ⟨A,c,ls⟩) (rowsG e m f gr ⟨A,c,ls.set j y⟩):=by
 have e1:rowsG e m f gr ⟨A,c,ls.set j y⟩=[⟨e,m,.slice A ls.length c,ls.length,ls.flatMap f⟩]++((ls.take j).flatMap gr++gr y++(ls.drop (j+1)).flatMap gr):=by
  unfold rowsG
  rw[flat_same hx hc,flat_split_set gr hx y];simp[Sl.val]
 have e2:rowsG e m f gr ⟨A,c,ls⟩=[⟨e,m,.slice A ls.length c,ls.length,ls.flatMap f⟩]++((ls.take j).flatMap gr++gr x++(ls.drop (j+1)).flatMap gr):=by
  unfold rowsG
  rw[← flat_split gr hx];rfl
 rw[e1,e2];exact(k.frame _ _).right _
theorem rowsG.st(hf:∀x,(f x).length=m)(ho:OwA w base (rowsG e m f gr ⟨some ⟨g,0,none⟩,c,ls⟩))(hx:ls[j]?=some x){t:Nat}{v:Value}(ht:t<m)(hc:f y=(f x).set t v)(hr:gr y=gr x) :
 MkA w (w.setCell ⟨g,j*m+t,none⟩ v) (rowsG e m f gr ⟨some ⟨g,0,none⟩,c,ls⟩) (rowsG e m f gr ⟨some ⟨g,0,none⟩,c,ls.set j y⟩):=by
 have h1:w.ownsRow base e m (.slice (some ⟨g,0,none⟩) ls.length c) ls.length (ls.flatMap f):=ho.each ⟨e,m,.slice (some ⟨g,0,none⟩) ls.length c,ls.length,ls.flatMap f⟩ (List.mem_cons_self ..)
 obtain⟨s1,s2⟩:=h1.stored (j*m+t) v
 rw[flat_set hf ls j x y t v hx ht hc]at s1;have k:MkA w (w.setCell ⟨g,j*m+t,none⟩ v) [⟨e,m,.slice (some ⟨g,0,none⟩) ls.length c,ls.length,ls.flatMap f⟩] [⟨e,m,.slice (some ⟨g,0,none⟩) ls.length c,ls.length,(ls.set j y).flatMap f⟩]:=MkA.leaf (r:=⟨e,m,.slice (some ⟨g,0,none⟩) ls.length c,ls.length,ls.flatMap f⟩) h1 s1 s2
 have e1:rowsG e m f gr ⟨some ⟨g,0,none⟩,c,ls.set j y⟩=[⟨e,m,.slice (some ⟨g,0,none⟩) ls.length c,ls.length,(ls.set j y).flatMap f⟩]++ls.flatMap gr:=by
  unfold rowsG
  rw[flat_same hx hr];simp[Sl.val]
 rw[e1];exact k.left _
theorem rowsG.cells(hf:∀x,(f x).length=m)(ho:OwA w base (rowsG e m f gr ⟨some ⟨g,0,none⟩,c,ls⟩))(hx:ls[j]?=some x):∀t u,(f x)[t]?=some u→w.cell? ⟨g,j*m+t,none⟩=some u∧w.frozen? ⟨g,j*m+t,none⟩=false:=by
 have h1:w.ownsRow base e m (.slice (some ⟨g,0,none⟩) ls.length c) ls.length (ls.flatMap f):=ho.each ⟨e,m,.slice (some ⟨g,0,none⟩) ls.length c,ls.length,ls.flatMap f⟩ (List.mem_cons_self ..)
 intro t u hu
 have h2:=flat_get f m hf ls j x hx t u hu
 have hi:=(List.getElem?_eq_some_iff.1 hx).1
 have ht:t<m:=by rw[← hf x];exact(List.getElem?_eq_some_iff.1 hu).1
 have hlt:j*m+t<ls.length*m:=by
  have:(j+1)*m≤ls.length*m:=Nat.mul_le_mul_right _ hi
  rw[Nat.add_mul]at this;omega
 exact⟨by rw[h1.cellAt _ hlt];exact h2,h1.frozenAt _⟩
end
def Lk{α:Type}(e:TypeId)(m:Nat)(f:α→List Value)(gr:α→List Rw)(w0 w:World)(s:Sl α)(g c:Nat)(ls:List α)(j:Nat)(d:α):Prop :=
 MkA w0 w (rowsG e m f gr s) (rowsG e m f gr ⟨some ⟨g,0,none⟩,c,ls.set j d⟩)
section
variable {α:Type} {e:TypeId} {m:Nat} {f:α→List Value} {gr:α→List Rw} {w0 w w':World} {s:Sl α} {base g c:Nat} {ls:List α} {j:Nat} {d y:α}
theorem Lk.own(h:Lk e m f gr w0 w s g c ls j d)(o:OwA w0 base (rowsG e m f gr s)):OwA w base (rowsG e m f gr ⟨some ⟨g,0,none⟩,c,ls.set j d⟩):=MkA.own h o
theorem Lk.up(h:Lk e m f gr w0 w s g c ls j d)(u:Up w w'):Lk e m f gr w0 w' s g c ls j d:=MkA.trans h (MkA.up u)
theorem Lk.inn(h:Lk e m f gr w0 w s g c ls j d)(hj:j<ls.length)(k:MkA w w' (gr d) (gr y))(hc:f y=f d):Lk e m f gr w0 w' s g c ls j y:=by
 have hx:(ls.set j d)[j]?=some d:=by rw[List.getElem?_set_self (by simpa using hj)]
 have:=MkA.trans h (rowsG.in_ (e:=e) (m:=m) (f:=f) (c:=c) (A:=some ⟨g,0,none⟩) hx k hc)
 rwa [List.set_set]at this
theorem Lk.st(hf:∀x,(f x).length=m)(h:Lk e m f gr w0 w s g c ls j d)(o:OwA w0 base (rowsG e m f gr s))(hj:j<ls.length){t:Nat}{v:Value}(ht:t<m)(hc:f y=(f d).set t v)(hr:gr y=gr d):Lk e m f gr w0 (w.setCell ⟨g,j*m+t,none⟩ v) s g c ls j y:=by
 have hx:(ls.set j d)[j]?=some d:=by rw[List.getElem?_set_self (by simpa using hj)]
 have:=MkA.trans h (rowsG.st hf (h.own o) hx ht hc hr)
 rwa [List.set_set]at this
theorem Lk.cells(hf:∀x,(f x).length=m)(h:Lk e m f gr w0 w s g c ls j d)(o:OwA w0 base (rowsG e m f gr s))(hj:j<ls.length):∀t u,(f d)[t]?=some u→w.cell? ⟨g,j*m+t,none⟩=some u∧w.frozen? ⟨g,j*m+t,none⟩=false :=
 rowsG.cells hf (h.own o) (by rw[List.getElem?_set_self (by simpa using hj)])
theorem Lk.inner(h:Lk e m f gr w0 w s g c ls j d)(o:OwA w0 base (rowsG e m f gr s))(hj:j<ls.length):OwA w base (gr d) :=
 rowsG.inner (h.own o) (by show(ls.set j d)[j]?=some d;rw[List.getElem?_set_self (by simpa using hj)])
end
def mL{α:Type}(mk:α→Int→α)(ct:α→Int):List α→Int→List α
 | [],_=>[]
 | d :: l,k=>mk d k :: mL mk ct l (k+ct d)
def cL{α:Type}(ct:α→Int):List α→Int
 | []=>0
 | d :: l=>ct d+cL ct l
section
variable {α:Type} {mk:α→Int→α} {ct:α→Int}
theorem mL_len:∀(l:List α) (k:Int),(mL mk ct l k).length=l.length
 | [],_=>rfl
 | d :: l,k=>by simp[mL,mL_len l]
theorem cL_nn(h:∀d,0≤ct d):∀l:List α,0≤cL ct l
 | []=>Int.le_refl _
 | d :: l=>by have:=h d;have:=cL_nn h l;simp only[cL];omega
theorem cL_take(h:∀d,0≤ct d):∀(l:List α) (j:Nat),cL ct (l.take j)≤cL ct l
 | [],j=>by simp
 | d :: l,0=>by simpa[cL] using cL_nn h (d :: l)
 | d :: l,j+1=>by have:=cL_take h l j;simp only[List.take_succ_cons,cL];omega
theorem cL_succ:∀{l:List α} {j:Nat} {d:α},l[j]?=some d→cL ct (l.take (j+1))=cL ct (l.take j)+ct d
 | [],j,d,h=>by simp at h
 | x :: l,0,d,h=>by simp at h;subst h;simp[cL]
 | x :: l,j+1,d,h=>by
   simp at h
   have:=cL_succ h
   simp only[List.take_succ_cons,cL]at this ⊢
   omega
theorem mL_take:∀(l:List α) (k:Int) (j:Nat) (d:α),l[j]?=some d→(mL mk ct (l.take j) k++l.drop j).set j (mk d (k+cL ct (l.take j)))=mL mk ct (l.take (j+1)) k++l.drop (j+1)
 | [],k,j,d,h=>by simp at h
 | x :: l,k,0,d,h=>by simp at h;subst h;simp[mL,cL]
 | x :: l,k,j+1,d,h=>by
   simp at h
   have:=mL_take l (k+ct x) j d h
   simp only[List.take_succ_cons,List.drop_succ_cons,mL,cL,List.cons_append,List.set_cons_succ]
   rw[show k+(ct x+cL ct (l.take j))=k+ct x+cL ct (l.take j) by omega,this]
theorem mL_at(l:List α)(k:Int)(j:Nat)(d:α)(h:l[j]?=some d):(mL mk ct (l.take j) k++l.drop j)[j]?=some d:=by
 have hj:=(List.getElem?_eq_some_iff.1 h).1
 rw[List.getElem?_append_right (by rw[mL_len];simp;omega),mL_len,List.length_take,Nat.min_eq_left (by omega),Nat.sub_self,List.getElem?_drop,Nat.add_zero]
 exact h
end
def cD(d:Dd):Int:=1+8*(d.da.l.length:Int)+2*(d.wi.l.length:Int)+1+1+1+(d.ci.l.length:Int)
theorem cD_nn(d:Dd):0≤cD d:=by unfold cD;omega
def mDd(d:Dd)(k:Int):Dd:=⟨mtext k,mC d.da (k+1),mW d.wi (k+1+8*(d.da.l.length:Int)),mtext (k+1+8*(d.da.l.length:Int)+2*(d.wi.l.length:Int)),mtext (k+1+8*(d.da.l.length:Int)+2*(d.wi.l.length:Int)+1),mtext (k+1+8*(d.da.l.length:Int)+2*(d.wi.l.length:Int)+1+1),mS d.ci (k+1+8*(d.da.l.length:Int)+2*(d.wi.l.length:Int)+1+1+1)⟩
abbrev cDs:List Dd→Int:=cL cD
abbrev mDs:List Dd→Int→List Dd:=mL mDd cD
def SmDd(s:Sl Dd):Prop:=s.l.length≤2000000∧∀d∈s.l,SmE d
theorem markDeedS_any(s:Sl Dd)(k:Int)(w:World)(base:Nat)(h:OwA w base (rowsDd s))(hs:SmDd s)(h0:1≤k)(hk:k+cDs s.l≤60000000) :
 Calls Tryz.prog 37 #[.slice s.A s.l.length s.c,.int .i64 k] w fun e w'=>e=.returned (.int .i64 (k+cDs s.l))∧MkA w w' (rowsDd s) (rowsDd ⟨s.A,s.c,mDs s.l k⟩):=by
 obtain⟨A,c,l⟩:=s
 simp only at hk ⊢
 have hn:l.length≤2000000:=hs.1
 have HS:=qh hs.2
 have HO:=qh h
 have hA:l.length≠0→∃g,A=some ⟨g,0,none⟩:=fun h0=>by
  have h1:w.ownsRow base 81 7 (.slice A l.length c) l.length (l.flatMap Dd.cells):=h.each (rwDeed ⟨A,c,l⟩) (by simp[rowsDd])
  obtain⟨A',c',hv,-,-,hA,-⟩:=own_form h1
  simp only[Value.slice.injEq]at hv
  obtain⟨rfl,-,-⟩:=hv
  obtain⟨g,e,-⟩:=hA (by omega)
  exact⟨g,e⟩
 have HA:=qh hA
 clear h hs hA;go_enter Tryz.func37,Tryz.ntmps37
 go_wp2;go_loopw [1,5] (fun q i wr=>∃j:Nat,j≤l.length∧i=.int .i64 j∧q=.int .i64 (k+cDs (l.take j))∧MkA w wr (rowsDd ⟨A,c,l⟩) (rowsDd ⟨A,c,mDs (l.take j) k++l.drop j⟩)) (fun _ i _=>l.length-(intOf i).toNat)
 case atStart=>exact⟨0,Nat.zero_le _,rfl,by simp[cL],by simpa[mL] using MkA.refl w _⟩
 case round =>
  obtain⟨j,hj,rfl,rfl,hM⟩:=hrel
  by_cases hlt:j<l.length
  ·obtain⟨g,rfl⟩:=HA.out (by omega)
   obtain⟨d,hd⟩:∃d,l[j]?=some d:=⟨_,List.getElem?_eq_getElem hlt⟩
   obtain⟨sa,sw,sc⟩:=HS.out d (List.mem_of_getElem? hd)
   have hsucc:cDs (l.take (j+1))=cDs (l.take j)+cD d:=cL_succ hd
   have htk:cDs (l.take (j+1))≤cDs l:=cL_take cD_nn l (j+1)
   have hnn:0≤cDs (l.take j):=cL_nn cD_nn (l.take j)
   obtain⟨ls,hls⟩:∃ls,ls=mDs (l.take j) k++l.drop j:=⟨_,rfl⟩
   have hat:ls[j]?=some d:=by rw[hls];exact mL_at l k j d hd
   have hlj:j<ls.length:=(List.getElem?_eq_some_iff.1 hat).1
   have hset:=mL_take (mk:=mDd) (ct:=cD) l k j d hd
   rw[← hls]at hM hset;have L0:Lk 81 7 Dd.cells rowsE w wr ⟨some ⟨g,0,none⟩,c,l⟩ g c ls j d:=by
    unfold Lk
    rw[set_same hat];exact hM
   obtain⟨q0,hq⟩:∃q0,q0=k+cDs (l.take j):=⟨_,rfl⟩
   have hq1:1≤q0:=by rw[hq];omega
   have hq2:q0+cD d≤60000000:=by rw[hq];omega
   unfold cD at hq2
   have HQ:=qh hq
   have HSET:=qh hset
   have HSUCC:=qh hsucc
   rw[← hq];clear hq hset hsucc htk hnn hls hat hM;obtain⟨nm,da,wi,pl,se,ha,ci⟩:=d
   simp only at sa sw sc hq2
   go_wp2_with fail
   refine(markText_any _ _ (by omega) (by omega)).mono ?_
   rintro e v1 ⟨rfl,up⟩
   have M1:=L0.up up
   clear L0 up;have C:=M1.cells Dd.len HO.out hlj
   have r0:v1.cell? ⟨g,j*7,none⟩=_:=(C 0 _ rfl).1
   have z0:v1.frozen? ⟨g,j*7,none⟩=false:=(C 0 _ rfl).2
   have L1:Lk 81 7 Dd.cells rowsE w (v1.setCell ⟨g,j*7,none⟩ (.string (mtext (q0)))) ⟨some ⟨g,0,none⟩,c,l⟩ g c ls j ⟨mtext (q0),da,wi,pl,se,ha,ci⟩:=M1.st Dd.len HO.out hlj (t:=0) (v:=.string (mtext (q0))) (by decide) rfl rfl
   clear M1;have r1:v1.cell? ⟨g,j*7+1,none⟩=_:=(C 1 _ rfl).1
   clear C;go_wp2_with fail
   generalize v1.setCell ⟨g,j*7,none⟩ (.string (mtext (q0)))=w1 at *
   refine(markClause_s da (q0+1) _ base ((L1.inner HO.out hlj).each _ (by simp[rowsE])) (by omega) (by omega) (by omega)).mono ?_
   rintro e w2 ⟨rfl,v⟩
   have L2:Lk 81 7 Dd.cells rowsE w w2 ⟨some ⟨g,0,none⟩,c,l⟩ g c ls j ⟨mtext (q0),mC da (q0+1),wi,pl,se,ha,ci⟩:=L1.inn hlj (v.left [rwWitness wi,rwStr ci]) (by simp[mC,mkCl_len])
   clear L1 v r0 z0 r1;have r2:w2.cell? ⟨g,j*7+2,none⟩=_:=(L2.cells Dd.len HO.out hlj 2 _ rfl).1
   go_wp2_with fail
   refine(markWitness_s wi (q0+1+8*(da.l.length:Int)) _ base ((L2.inner HO.out hlj).each _ (by simp[rowsE])) (by omega) (by omega) (by omega)).mono ?_
   rintro e w3 ⟨rfl,v⟩
   have L3:Lk 81 7 Dd.cells rowsE w w3 ⟨some ⟨g,0,none⟩,c,l⟩ g c ls j ⟨mtext (q0),mC da (q0+1),mW wi (q0+1+8*(da.l.length:Int)),pl,se,ha,ci⟩:=L2.inn hlj (v.frame [rwClause (mC da (q0+1))] [rwStr ci]) (by simp[mW,mkWi_len])
   clear L2 v r2;go_wp2_with fail
   refine(markText_any _ _ (by omega) (by omega)).mono ?_
   rintro e v4 ⟨rfl,up⟩
   have M4:=L3.up up
   clear L3 up;have C:=M4.cells Dd.len HO.out hlj
   have r3:v4.cell? ⟨g,j*7+3,none⟩=_:=(C 3 _ rfl).1
   have z3:v4.frozen? ⟨g,j*7+3,none⟩=false:=(C 3 _ rfl).2
   have L4:Lk 81 7 Dd.cells rowsE w (v4.setCell ⟨g,j*7+3,none⟩ (.string (mtext (q0+1+8*(da.l.length:Int)+2*(wi.l.length:Int))))) ⟨some ⟨g,0,none⟩,c,l⟩ g c ls j ⟨mtext (q0),mC da (q0+1),mW wi (q0+1+8*(da.l.length:Int)),mtext (q0+1+8*(da.l.length:Int)+2*(wi.l.length:Int)),se,ha,ci⟩:=M4.st Dd.len HO.out hlj (t:=3) (v:=.string (mtext (q0+1+8*(da.l.length:Int)+2*(wi.l.length:Int)))) (by decide) rfl rfl
   clear M4;clear C;go_wp2_with fail
   generalize v4.setCell ⟨g,j*7+3,none⟩ (.string (mtext (q0+1+8*(da.l.length:Int)+2*(wi.l.length:Int))))=w4 at *
   refine(markText_any _ _ (by omega) (by omega)).mono ?_
   rintro e v5 ⟨rfl,up⟩
   have M5:=L4.up up
   clear L4 up;have C:=M5.cells Dd.len HO.out hlj
   have r4:v5.cell? ⟨g,j*7+4,none⟩=_:=(C 4 _ rfl).1
   have z4:v5.frozen? ⟨g,j*7+4,none⟩=false:=(C 4 _ rfl).2
   have L5:Lk 81 7 Dd.cells rowsE w (v5.setCell ⟨g,j*7+4,none⟩ (.string (mtext (q0+1+8*(da.l.length:Int)+2*(wi.l.length:Int)+1)))) ⟨some ⟨g,0,none⟩,c,l⟩ g c ls j ⟨mtext (q0),mC da (q0+1),mW wi (q0+1+8*(da.l.length:Int)),mtext (q0+1+8*(da.l.length:Int)+2*(wi.l.length:Int)),mtext (q0+1+8*(da.l.length:Int)+2*(wi.l.length:Int)+1),ha,ci⟩:=M5.st Dd.len HO.out hlj (t:=4) (v:=.string (mtext (q0+1+8*(da.l.length:Int)+2*(wi.l.length:Int)+1))) (by decide) rfl rfl
   clear M5;clear C r3 z3;go_wp2_with fail
   generalize v5.setCell ⟨g,j*7+4,none⟩ (.string (mtext (q0+1+8*(da.l.length:Int)+2*(wi.l.length:Int)+1)))=w5 at *
   refine(markText_any _ _ (by omega) (by omega)).mono ?_
   rintro e v6 ⟨rfl,up⟩
   have M6:=L5.up up
   clear L5 up;have C:=M6.cells Dd.len HO.out hlj
   have r5:v6.cell? ⟨g,j*7+5,none⟩=_:=(C 5 _ rfl).1
   have z5:v6.frozen? ⟨g,j*7+5,none⟩=false:=(C 5 _ rfl).2
   have L6:Lk 81 7 Dd.cells rowsE w (v6.setCell ⟨g,j*7+5,none⟩ (.string (mtext (q0+1+8*(da.l.length:Int)+2*(wi.l.length:Int)+1+1)))) ⟨some ⟨g,0,none⟩,c,l⟩ g c ls j ⟨mtext (q0),mC da (q0+1),mW wi (q0+1+8*(da.l.length:Int)),mtext (q0+1+8*(da.l.length:Int)+2*(wi.l.length:Int)),mtext (q0+1+8*(da.l.length:Int)+2*(wi.l.length:Int)+1),mtext (q0+1+8*(da.l.length:Int)+2*(wi.l.length:Int)+1+1),ci⟩:=M6.st Dd.len HO.out hlj (t:=5) (v:=.string (mtext (q0+1+8*(da.l.length:Int)+2*(wi.l.length:Int)+1+1))) (by decide) rfl rfl
   clear M6;have r6:v6.cell? ⟨g,j*7+6,none⟩=_:=(C 6 _ rfl).1
   clear C r4 z4;go_wp2_with fail
   generalize v6.setCell ⟨g,j*7+5,none⟩ (.string (mtext (q0+1+8*(da.l.length:Int)+2*(wi.l.length:Int)+1+1)))=w6 at *
   refine(markStr_s ci (q0+1+8*(da.l.length:Int)+2*(wi.l.length:Int)+1+1+1) _ base ((L6.inner HO.out hlj).each _ (by simp[rowsE])) (by omega) (by omega) (by omega)).mono ?_
   rintro e w7 ⟨rfl,v⟩
   have L7:Lk 81 7 Dd.cells rowsE w w7 ⟨some ⟨g,0,none⟩,c,l⟩ g c ls j ⟨mtext (q0),mC da (q0+1),mW wi (q0+1+8*(da.l.length:Int)),mtext (q0+1+8*(da.l.length:Int)+2*(wi.l.length:Int)),mtext (q0+1+8*(da.l.length:Int)+2*(wi.l.length:Int)+1),mtext (q0+1+8*(da.l.length:Int)+2*(wi.l.length:Int)+1+1),mS ci (q0+1+8*(da.l.length:Int)+2*(wi.l.length:Int)+1+1+1)⟩:=L6.inn hlj (v.right [rwClause (mC da (q0+1)),rwWitness (mW wi (q0+1+8*(da.l.length:Int)))]) (by simp[mS,mkS_len])
   clear L6 v r5 z5 r6;have L8:Lk 81 7 Dd.cells rowsE w w7 ⟨some ⟨g,0,none⟩,c,l⟩ g c ls j (mDd ⟨nm,da,wi,pl,se,ha,ci⟩ q0):=L7
   clear L7;unfold Lk at L8
   have hq:=HQ.out
   rw[show mDd ⟨nm,da,wi,pl,se,ha,ci⟩ q0=mDd ⟨nm,da,wi,pl,se,ha,ci⟩ (k+cL cD (l.take j)) by rw[hq],HSET.out]at L8
   clear hq;go_wp2;go_roundw
   case rel=>exact⟨j+1,by omega,by go_num,congrArg (Value.int .i64) (by have h1:=HQ.out;have h2:=HSUCC.out;unfold cD at h2;simp only at h2;omega),L8⟩
   case measure=>simp[intOf];omega
  ·obtain rfl:j=l.length:=by omega
   go_wp2;go_ret;rw[List.take_of_length_le (Nat.le_refl _),List.drop_eq_nil_of_le (Nat.le_refl _),List.append_nil]at hM;exact⟨ret_int (by rw[List.take_of_length_le (Nat.le_refl _)]),hM⟩
def cF(x:Fm):Int:=(x.ws.length:Int)+1+1
theorem cF_eq(x:Fm):cF x=(x.ws.length:Int)+1+1:=rfl
theorem cF_nn(x:Fm):0≤cF x:=by unfold cF;omega
def mFm(x:Fm)(k:Int):Fm:=⟨x.A,x.c,mkS k x.ws.length,k+(x.ws.length:Int),k+(x.ws.length:Int)+1⟩
abbrev grF(x:Fm):List Rw:=[rwWords x]
theorem rowsFm_g(s:Sl Fm):rowsFm s=rowsG 130 3 Fm.cells grF s:=by
 unfold rowsFm rowsG
 rw[List.map_eq_flatMap]
def cP(x:Sl ByteArray):Int:=(x.l.length:Int)
theorem cP_eq(x:Sl ByteArray):cP x=(x.l.length:Int):=rfl
theorem cP_nn(x:Sl ByteArray):0≤cP x:=by unfold cP;omega
abbrev grP(x:Sl ByteArray):List Rw:=[rwStr x]
theorem rowsPh_g(s:Sl (Sl ByteArray)):rowsPh s=rowsG 29 1 phC grP s:=by
 unfold rowsPh rowsG
 rw[List.map_eq_flatMap]
theorem markFormulaS_any(s:Sl Fm)(k:Int)(w:World)(base:Nat)(h:OwA w base (rowsFm s))(hs:SmFm s)(h0:1≤k)(hk:k+cL cF s.l≤60000000) :
 Calls Tryz.prog 38 #[.slice s.A s.l.length s.c,.int .i64 k] w fun e w'=>e=.returned (.int .i64 (k+cL cF s.l))∧MkA w w' (rowsFm s) (rowsFm ⟨s.A,s.c,mL mFm cF s.l k⟩):=by
 obtain⟨A,c,l⟩:=s
 rw[rowsFm_g]at h;rw[rowsFm_g,rowsFm_g];simp only at hk ⊢
 have hn:l.length≤2000000:=hs.1
 have HS:=qh hs.2
 have HO:=qh h
 have hA:l.length≠0→∃g,A=some ⟨g,0,none⟩:=fun h0=>by
  have h1:w.ownsRow base 130 3 (.slice A l.length c) l.length (l.flatMap Fm.cells):=h.each ⟨130,3,.slice A l.length c,l.length,l.flatMap Fm.cells⟩ (List.mem_cons_self ..)
  obtain⟨A',c',hv,-,-,hA,-⟩:=own_form h1
  simp only[Value.slice.injEq]at hv
  obtain⟨rfl,-,-⟩:=hv
  obtain⟨g,e,-⟩:=hA (by omega)
  exact⟨g,e⟩
 have HA:=qh hA
 clear h hs hA;go_enter Tryz.func38,Tryz.ntmps38
 go_wp2;go_loopw [1,5] (fun q i wr=>∃j:Nat,j≤l.length∧i=.int .i64 j∧q=.int .i64 (k+cL cF (l.take j))∧MkA w wr (rowsG 130 3 Fm.cells grF ⟨A,c,l⟩) (rowsG 130 3 Fm.cells grF ⟨A,c,mL mFm cF (l.take j) k++l.drop j⟩)) (fun _ i _=>l.length-(intOf i).toNat)
 case atStart=>exact⟨0,Nat.zero_le _,rfl,by simp[cL],by simpa[mL] using MkA.refl w _⟩
 case round =>
  obtain⟨j,hj,rfl,rfl,hM⟩:=hrel
  by_cases hlt:j<l.length
  ·obtain⟨g,rfl⟩:=HA.out (by omega)
   obtain⟨d,hd⟩:∃d,l[j]?=some d:=⟨_,List.getElem?_eq_getElem hlt⟩
   have hsd:=HS.out d (List.mem_of_getElem? hd)
   have hsucc:cL cF (l.take (j+1))=cL cF (l.take j)+cF d:=cL_succ hd
   have htk:cL cF (l.take (j+1))≤cL cF l:=cL_take cF_nn l (j+1)
   have hnn:0≤cL cF (l.take j):=cL_nn cF_nn (l.take j)
   obtain⟨ls,hls⟩:∃ls,ls=mL mFm cF (l.take j) k++l.drop j:=⟨_,rfl⟩
   have hat:ls[j]?=some d:=by rw[hls];exact mL_at l k j d hd
   have hlj:j<ls.length:=(List.getElem?_eq_some_iff.1 hat).1
   have hset:=mL_take (mk:=mFm) (ct:=cF) l k j d hd
   rw[← hls]at hM hset;have L0:Lk 130 3 Fm.cells grF w wr ⟨some ⟨g,0,none⟩,c,l⟩ g c ls j d:=by
    unfold Lk
    rw[set_same hat];exact hM
   obtain⟨q0,hq⟩:∃q0,q0=k+cL cF (l.take j):=⟨_,rfl⟩
   have hq1:1≤q0:=by rw[hq];omega
   have hq2:q0+cF d≤60000000:=by rw[hq];omega
   unfold cF at hq2
   have HQ:=qh hq
   have HSET:=qh hset
   have HSUCC:=qh hsucc
   rw[← hq];clear hq hset hsucc htk hnn hls hat hM;have C:=L0.cells fm_len HO.out hlj
   have r0:wr.cell? ⟨g,j*3,none⟩=_:=(C 0 _ rfl).1
   clear C;have HC:=markStr_s ⟨d.A,d.c,d.ws⟩ q0 wr base ((L0.inner HO.out hlj).each _ (by simp)) hsd hq1 (by omega)
   dsimp only at HC
   have HC:=qh HC
   go_wp2_with fail
   refine HC.out.mono ?_
   rintro e w2 ⟨rfl,v⟩
   have L1:Lk 130 3 Fm.cells grF w w2 ⟨some ⟨g,0,none⟩,c,l⟩ g c ls j ⟨d.A,d.c,mkS q0 d.ws.length,d.fr,d.to_⟩:=L0.inn hlj v (by simp[mkS_len])
   clear L0 v r0 HC;have C:=L1.cells fm_len HO.out hlj
   have r1:w2.cell? ⟨g,j*3+1,none⟩=_:=(C 1 _ rfl).1
   have z1:w2.frozen? ⟨g,j*3+1,none⟩=false:=(C 1 _ rfl).2
   have r2:w2.cell? ⟨g,j*3+2,none⟩=_:=(C 2 _ rfl).1
   have z2:w2.frozen? ⟨g,j*3+2,none⟩=false:=(C 2 _ rfl).2
   clear C;have L2:Lk 130 3 Fm.cells grF w (w2.setCell ⟨g,j*3+1,none⟩ (.int .i64 (q0+(d.ws.length:Int)))) ⟨some ⟨g,0,none⟩,c,l⟩ g c ls j ⟨d.A,d.c,mkS q0 d.ws.length,q0+(d.ws.length:Int),d.to_⟩:=L1.st fm_len HO.out hlj (t:=1) (v:=.int .i64 (q0+(d.ws.length:Int))) (by decide) rfl rfl
   have L3:Lk 130 3 Fm.cells grF w ((w2.setCell ⟨g,j*3+1,none⟩ (.int .i64 (q0+(d.ws.length:Int)))).setCell ⟨g,j*3+2,none⟩ (.int .i64 (q0+(d.ws.length:Int)+1))) ⟨some ⟨g,0,none⟩,c,l⟩ g c ls j (mFm d q0):=L2.st fm_len HO.out hlj (t:=2) (v:=.int .i64 (q0+(d.ws.length:Int)+1)) (by decide) rfl rfl
   clear L1 L2;have L8:Lk 130 3 Fm.cells grF w ((w2.setCell ⟨g,j*3+1,none⟩ (.int .i64 (q0+(d.ws.length:Int)))).setCell ⟨g,j*3+2,none⟩ (.int .i64 (q0+(d.ws.length:Int)+1))) ⟨some ⟨g,0,none⟩,c,l⟩ g c ls j (mFm d q0):=by assumption
   unfold Lk at L8
   have hq:=HQ.out
   rw[show mFm d q0=mFm d (k+cL cF (l.take j)) by rw[hq],HSET.out]at L8
   clear hq;go_wp2;go_roundw
   case rel=>exact⟨j+1,by omega,by go_num,congrArg (Value.int .i64) (by have h1:=HQ.out;have h2:=HSUCC.out;rw[cF_eq]at h2;omega),L8⟩
   case measure=>simp[intOf];omega
  ·obtain rfl:j=l.length:=by omega
   go_wp2;go_ret;rw[List.take_of_length_le (Nat.le_refl _),List.drop_eq_nil_of_le (Nat.le_refl _),List.append_nil]at hM;exact⟨ret_int (by rw[List.take_of_length_le (Nat.le_refl _)]),hM⟩
theorem markStringSS_any(s:Sl (Sl ByteArray))(k:Int)(w:World)(base:Nat)(h:OwA w base (rowsPh s))(hs:SmPh s)(h0:1≤k)(hk:k+cL cP s.l≤60000000) :
 Calls Tryz.prog 39 #[.slice s.A s.l.length s.c,.int .i64 k] w fun e w'=>e=.returned (.int .i64 (k+cL cP s.l))∧MkA w w' (rowsPh s) (rowsPh ⟨s.A,s.c,mL mS cP s.l k⟩):=by
 obtain⟨A,c,l⟩:=s
 rw[rowsPh_g]at h;rw[rowsPh_g,rowsPh_g];simp only at hk ⊢
 have hn:l.length≤2000000:=hs.1
 have HS:=qh hs.2
 have HO:=qh h
 have hA:l.length≠0→∃g,A=some ⟨g,0,none⟩:=fun h0=>by
  have h1:w.ownsRow base 29 1 (.slice A l.length c) l.length (l.flatMap phC):=h.each ⟨29,1,.slice A l.length c,l.length,l.flatMap phC⟩ (List.mem_cons_self ..)
  obtain⟨A',c',hv,-,-,hA,-⟩:=own_form h1
  simp only[Value.slice.injEq]at hv
  obtain⟨rfl,-,-⟩:=hv
  obtain⟨g,e,-⟩:=hA (by omega)
  exact⟨g,e⟩
 have HA:=qh hA
 clear h hs hA;go_enter Tryz.func39,Tryz.ntmps39
 go_wp2;go_loopw [1,5] (fun q i wr=>∃j:Nat,j≤l.length∧i=.int .i64 j∧q=.int .i64 (k+cL cP (l.take j))∧MkA w wr (rowsG 29 1 phC grP ⟨A,c,l⟩) (rowsG 29 1 phC grP ⟨A,c,mL mS cP (l.take j) k++l.drop j⟩)) (fun _ i _=>l.length-(intOf i).toNat)
 case atStart=>exact⟨0,Nat.zero_le _,rfl,by simp[cL],by simpa[mL] using MkA.refl w _⟩
 case round =>
  obtain⟨j,hj,rfl,rfl,hM⟩:=hrel
  by_cases hlt:j<l.length
  ·obtain⟨g,rfl⟩:=HA.out (by omega)
   obtain⟨d,hd⟩:∃d,l[j]?=some d:=⟨_,List.getElem?_eq_getElem hlt⟩
   have hsd:=HS.out d (List.mem_of_getElem? hd)
   have hsucc:cL cP (l.take (j+1))=cL cP (l.take j)+cP d:=cL_succ hd
   have htk:cL cP (l.take (j+1))≤cL cP l:=cL_take cP_nn l (j+1)
   have hnn:0≤cL cP (l.take j):=cL_nn cP_nn (l.take j)
   obtain⟨ls,hls⟩:∃ls,ls=mL mS cP (l.take j) k++l.drop j:=⟨_,rfl⟩
   have hat:ls[j]?=some d:=by rw[hls];exact mL_at l k j d hd
   have hlj:j<ls.length:=(List.getElem?_eq_some_iff.1 hat).1
   have hset:=mL_take (mk:=mS) (ct:=cP) l k j d hd
   rw[← hls]at hM hset;have L0:Lk 29 1 phC grP w wr ⟨some ⟨g,0,none⟩,c,l⟩ g c ls j d:=by
    unfold Lk
    rw[set_same hat];exact hM
   obtain⟨q0,hq⟩:∃q0,q0=k+cL cP (l.take j):=⟨_,rfl⟩
   have hq1:1≤q0:=by rw[hq];omega
   have hq2:q0+cP d≤60000000:=by rw[hq];omega
   unfold cP at hq2
   have HQ:=qh hq
   have HSET:=qh hset
   have HSUCC:=qh hsucc
   rw[← hq];clear hq hset hsucc htk hnn hls hat hM;have C:=L0.cells phC_len HO.out hlj
   have r0:wr.cell? ⟨g,j,none⟩=some (.slice d.A d.l.length d.c):=by have:=(C 0 _ rfl).1;rwa [Nat.mul_one]at this
   clear C;have HC:=qh (markStr_s d q0 wr base ((L0.inner HO.out hlj).each _ (by simp)) hsd hq1 (by omega))
   go_wp2_with fail
   refine HC.out.mono ?_
   rintro e w2 ⟨rfl,v⟩
   have L1:Lk 29 1 phC grP w w2 ⟨some ⟨g,0,none⟩,c,l⟩ g c ls j (mS d q0):=L0.inn hlj v (by simp[mS,mkS_len])
   clear L0 v r0 HC;have L8:Lk 29 1 phC grP w w2 ⟨some ⟨g,0,none⟩,c,l⟩ g c ls j (mS d q0):=by assumption
   unfold Lk at L8
   have hq:=HQ.out
   rw[show mS d q0=mS d (k+cL cP (l.take j)) by rw[hq],HSET.out]at L8
   clear hq;go_wp2;go_roundw
   case rel=>exact⟨j+1,by omega,by go_num,congrArg (Value.int .i64) (by have h1:=HQ.out;have h2:=HSUCC.out;rw[cP_eq]at h2;omega),L8⟩
   case measure=>simp[intOf];omega
  ·obtain rfl:j=l.length:=by omega
   go_wp2;go_ret;rw[List.take_of_length_le (Nat.le_refl _),List.drop_eq_nil_of_le (Nat.le_refl _),List.append_nil]at hM;exact⟨ret_int (by rw[List.take_of_length_le (Nat.le_refl _)]),hM⟩
end Go.Proofs.YtihcmhmanfobcaaGreatDoor
