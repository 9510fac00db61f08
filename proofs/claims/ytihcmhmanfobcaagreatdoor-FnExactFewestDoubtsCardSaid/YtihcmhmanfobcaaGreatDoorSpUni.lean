/- The united spans of any spans, by the program: slices.Clone, slices.SortFunc, and the merge. -/
import Derived.Test.YtihcmhmanfobcaaGreatDoorVc
import Derived.Test.YtihcmhmanfobcaaGreatDoorSrt
set_option maxHeartbeats 4000000
set_option maxRecDepth 100000
namespace Go.Proofs.YtihcmhmanfobcaaGreatDoor
open Go.RowKit Go.Sort Go.Shelf Go.Lib
theorem flat_invP:∀(l:List Sp) (j:Nat) (u:Value),(l.flatMap spC)[j]?=some u→∃i x r,l[i]?=some x∧(spC x)[r]?=some u∧j=i*2+r
 | [],j,u,h=>by simp at h
 | y :: l,0,u,h=>⟨0,y,0,rfl,by simpa using h,rfl⟩
 | y :: l,1,u,h=>⟨0,y,1,rfl,by simpa using h,rfl⟩
 | y :: l,j+2,u,h=>by
   obtain⟨i,x,r,h1,h2,h3⟩:=flat_invP l j u (by simpa using h)
   exact⟨i+1,x,r,by simpa using h1,h2,by omega⟩
theorem Rd.newsP{w:World}{lo hi:Nat}{a:Addr}{l:List Sp}(h:RdP w lo hi (some a) l):∀j u,(l.flatMap spC)[j]?=some u→w.cell? (a.add j)=some u:=by
 intro j u hu
 obtain⟨i,x,r,h1,h2,h3⟩:=flat_invP l j u hu
 obtain⟨b,off,e,-,-,h5⟩:=h (by rintro rfl;simp at hu)
 cases e;rw[Go.WideShapes.add_plain,h3,← Nat.add_assoc];exact h5 i x h1 r u h2
theorem cloneSp_any(A:Option Addr)(l:List Sp)(c lo hi:Nat)(w:World)(hr:RdP w lo hi A l)(hhi:hi≤w.heap.size)(hn:l.length≤2000000) :
 Calls Tryz.prog 219 #[.slice A l.length c] w fun e w'=>∃v,e=.returned v∧w'.ownsRow w.heap.size 84 2 v l.length (l.flatMap spC)∧Up w w':=by
 obtain⟨i0,hi0,hz0,hz1,hz2⟩:=info_parts infoSp
 have h1:∀(wx:World) n c,(binOp .eql 76 (.slice none n c) (.slice none 0 0)).run Tryz.prog wx=.ok (.bool true) wx:=fun wx n c=>Lib.run_eql_slice_nil wx 76 84 none n c 0 0 Tryz.underlying76
 have h2:∀(wx:World) a n c,(binOp .eql 76 (.slice (some a) n c) (.slice none 0 0)).run Tryz.prog wx=.ok (.bool false) wx:=fun wx a n c=>Lib.run_eql_slice_nil wx 76 84 (some a) n c 0 0 Tryz.underlying76
 rcases A with _|ad
 ·go_enter Tryz.func219,Tryz.ntmps219
  go_wp2;go_ret;have hl:l=[]:=by
   rcases l with _|⟨x,l⟩
   ·rfl
   ·obtain⟨b,off,e,_⟩:=hr (by simp);cases e
  subst hl;exact⟨_,rfl,World.ownsRow_nil _ _ _ _,Up.refl _⟩
 ·have hlit:=World.ownsRow_lit (base:=w.heap.size) (e:=84) (size:=2) w #[] 0 (Nat.le_refl _) (by simp[maxLen]) rfl
  have hup0:=Up.alloc w (.cells #[] 84)
  have hnews:=Rd.newsP (hr.up hup0 hhi)
  have n0:(l.flatMap spC).length=l.length*2:=flat_length _ 2 spC_len l
  have n1:0+l.length≤maxLen:=by unfold maxLen;omega
  have n2:(0+l.length)*16≤140737488355328:=by omega
  have n3:w.heap.size≤(w.alloc (.cells #[] 84)).heap.size:=hup0.size
  have hone:∀u∈l.flatMap spC,u.oneCell'=true:=by
   intro u hu
   obtain⟨x,_,hx⟩:=List.mem_flatMap.1 hu
   simp only[spC,List.mem_cons,List.not_mem_nil,or_false]at hx
   rcases hx with rfl|rfl<;>rfl
  have HN:=qh hnews
  have HO:=qh hone
  have H0:=qh n0
  have HL:=qh hlit
  clear hnews hone n0 hlit;go_enter Tryz.func219,Tryz.ntmps219
  go_wp2_with ((at_builtin;refine wpList_append_own _ rfl _ _ 76 rfl w.heap.size 84 i0 _ 2 16 Tryz.underlying76 hi0 hz0 hz1 hz2 rfl (by decide) _ _ _ rfl HL.out ad l.length c (l.flatMap spC) rfl H0.out HN.out HO.out n1 n2 n3 ?_))
  intro v' w4 hown' hgrow _
  have hu:=hup0.grown hgrow (fun k hk=>(HL.out.lt k hk).1)
  have HW:=qh hown'
  clear hown' hgrow;go_wp2;go_ret;exact⟨v',rfl,HW.out,hu⟩
theorem isNaN_any(a:Int)(w:World):Calls Tryz.prog 123 #[.int .i64 a] w fun e w'=>e=.returned (.bool false)∧w'=w:=by
 have h:(a != a)=false:=by simp
 go_enter Tryz.func123,Tryz.ntmps123
 go_wp2;go_ret;exact⟨rfl,rfl⟩
theorem compare_any(a b:Int)(w:World):Calls Tryz.prog 68 #[.int .i64 a,.int .i64 b] w fun e w'=>e=.returned (.int .i64 (Lib.compareInt a b))∧w'=w:=by
 by_cases h1:a<b
 ·have d1:decide (a<b)=true:=by simpa using h1
  have HE:=qh (show Lib.compareInt a b=-1 by simp[Lib.compareInt,h1])
  go_enter Tryz.func68,Tryz.ntmps68
  go_wp2_with (go_at_call 123;refine(isNaN_any _ _).mono ?_;rintro e w' ⟨rfl,rfl⟩)
  go_ret;exact⟨ret_int HE.out.symm,rfl⟩
 ·have d1:decide (a<b)=false:=by simpa using h1
  by_cases h2:b<a
  ·have d2:decide (b<a)=true:=by simpa using h2
   have HE:=qh (show Lib.compareInt a b=1 by simp[Lib.compareInt,h1,h2])
   go_enter Tryz.func68,Tryz.ntmps68
   go_wp2_with (go_at_call 123;refine(isNaN_any _ _).mono ?_;rintro e w' ⟨rfl,rfl⟩)
   go_ret;exact⟨ret_int HE.out.symm,rfl⟩
  ·have d2:decide (b<a)=false:=by simpa using h2
   have HE:=qh (show Lib.compareInt a b=0 by simp[Lib.compareInt,h1,h2])
   go_enter Tryz.func68,Tryz.ntmps68
   go_wp2_with (go_at_call 123;refine(isNaN_any _ _).mono ?_;rintro e w' ⟨rfl,rfl⟩)
   go_ret;exact⟨ret_int HE.out.symm,rfl⟩
theorem cmpClosure_any(x y:Sp)(W:World):Calls Tryz.prog 221 #[.agg #[.int .i64 x.1,.int .i64 x.2],.agg #[.int .i64 y.1,.int .i64 y.2]] W fun e w'=>e=.returned (.int .i64 (Lib.compareInt x.1 y.1))∧∃q os',w'=grow (W.drewN q) os':=by
 have hcon:=qh (fun W'=>compare_any x.1 y.1 W')
 go_enter Tryz.func221,Tryz.ntmps221
 go_wp2_with (go_at_call 68;refine(hcon.out _).mono ?_;rintro e w' ⟨rfl,rfl⟩)
 go_ret;exact⟨rfl,0,_,by rw[alloc_eq_grow,alloc_eq_grow,grow_grow];rfl⟩
theorem ltSp(x y:Sp):ltOf (fun x y:Sp=>Lib.compareInt x.1 y.1) x y=decide (x.1<y.1):=by
 unfold ltOf Lib.compareInt
 by_cases h1:x.1<y.1
 ·simp[h1]
 ·by_cases h2:y.1<x.1<;>simp[h1,h2]
theorem swoSp:SWO (ltOf fun x y:Sp=>Lib.compareInt x.1 y.1):={
 irrefl:=fun x=>by rw[ltSp];simp
 trans:=fun x y z h1 h2=>by rw[ltSp]at *;simp at *;omega
 ntrans:=fun x y z h1 h2=>by rw[ltSp]at *;simp at *;omega }
theorem grownBy_sortSp{w:World}{g n:Nat}{os:Array Obj}(d:Array Sp):w.grownBy (sortWorldK spC 2 w g 0 n d os) (some g):=by
 unfold sortWorldK putRowK
 refine⟨rfl,rfl,rfl,by simp,fun k hk hne=>?_⟩
 rw[heap_grow_old _ _ (by simpa using hk)]
 have:g≠k:=fun e=>hne (by rw[e])
 simp[putRow,mapBlock,Sort.ahead,Array.getElem?_modify,this]
theorem flat_at(l:List Sp)(t:Nat)(h:t<l.length*2):(l.flatMap spC)[t]?=some ((spC l.toArray[t/2]!)[t % 2]!):=by
 have hq:t/2<l.length:=by omega
 have:=flat_get spC 2 spC_len l (t/2) l[t/2] (List.getElem?_eq_getElem hq) (t % 2)
 rw[show t/2*2+t % 2=t by omega]at this
 have e:l.toArray[t/2]! = l[t/2]:=by simp[hq]
 rw[e];refine this _ ?_
 rcases Nat.mod_two_eq_zero_or_one t with h2|h2<;>rw[h2]<;>rfl
theorem holds_own{w:World}{base g c:Nat}{e:TypeId}{l:List Sp}(h:w.ownsRow base e 2 (.slice (some ⟨g,0,none⟩) l.length c) l.length (l.flatMap spC)):HoldsK spC 2 w g 0 l.toArray:=by
 intro t ht
 have ht':t<l.length*2:=by simpa using ht
 refine⟨?_,?_⟩
 ·rw[Nat.zero_add,h.cellAt t ht',flat_at l t ht',get_flatK _ _ _ _ (by simpa using ht')];rfl
 ·rw[Nat.zero_add];exact h.frozenAt t
theorem rd_holds{w:World}{g:Nat}{d:Array Sp}(h:HoldsK spC 2 w g 0 d):RdP w g (g+1) (some ⟨g,0,none⟩) d.toList:=fun _=>by
 refine⟨g,0,rfl,Nat.le_refl _,Nat.lt_succ_self _,fun i x hx j u hu=>?_⟩
 have hi:i<d.size:=by have:=(List.getElem?_eq_some_iff.1 hx).1;simpa using this
 have hj:j<2:=(List.getElem?_eq_some_iff.1 hu).1
 have h1:=(h (i*2+j) (by simp;omega)).1
 rw[get_flatK _ _ _ _ (by omega),show(i*2+j)/2=i by omega,show(i*2+j) % 2=j by omega]at h1
 rw[show 0+i*2+j=0+(i*2+j) by omega,h1]
 have e:d[i]! = x:=by
  have:=(List.getElem?_eq_some_iff.1 hx).2
  simp[hi];simpa using this
 rw[e];match j,hj,hu with
 | 0,_,hu=>simp at hu;subst hu;rfl
 | 1,_,hu=>simp at hu;subst hu;rfl
theorem srt_of{l:List Sp}{d:Array Sp}(hp:PermIn 0 l.toArray.size l.toArray d)(hs:SortedIn (ltOf fun x y:Sp=>Lib.compareInt x.1 y.1) 0 l.toArray.size d):d.toList.Perm l∧SrtS d.toList:=by
 obtain⟨h1,-,h3⟩:=hp
 have e1:d.extract 0 l.toArray.size=d:=by rw[← h1];simp
 have e2:l.toArray.extract 0 l.toArray.size=l.toArray:=by simp
 rw[e1,e2]at h3;refine⟨by simpa using h3,?_⟩
 rw[SrtS,List.pairwise_iff_getElem];intro i j hi hj hij
 have hi':i<d.size:=by simpa using hi
 have hj':j<d.size:=by simpa using hj
 have:=hs i j (Nat.zero_le _) hij (by rw[← h1];exact hj')
 rw[ltSp]at this;simp[hi',hj']at this
 simpa using this
theorem united_any(A:Option Addr)(l:List Sp)(c lo hi:Nat)(w:World)(hr:RdP w lo hi A l)(hhi:hi≤w.heap.size)(hn:l.length≤100000)(h0:0<l.length)(hbd:BdS l)(hok:OkS l) :
 Calls Tryz.prog 168 #[.slice A l.length c] w fun e w'=>∃v,e=.returned v∧w'.ownsRow w.heap.size 84 2 v (unL l).length ((unL l).flatMap spC)∧Up w w':=by
 obtain⟨i0,hi0,hz0,hz1,hz2⟩:=info_parts infoSp
 have HBD:=qh hbd
 have HOK:=qh hok
 have HCL:=qh (cloneSp_any A l c lo hi w hr hhi (by omega))
 clear hbd hok;have eg:∀(args:Array Value) (w:World),(callFunc 221 args).run Tryz.prog w=.ok (.enter 221 args) w:=fun _ _=>by kernel_rfl
 go_enter Tryz.func168,Tryz.ntmps168
 go_wp2_with fail
 refine HCL.out.mono ?_
 rintro e w1 ⟨v,rfl,hown,hup1⟩
 obtain⟨A1,c1,rfl,hc1,hm1,hA,-⟩:=own_form hown
 obtain⟨g,rfl,hg1,hg2⟩:=hA h0
 have hS:=AnyQ.slices_SortFunc Tryz.sortSp 2 (fun _=>rfl) (fun _=>rfl) spC (fun _=>rfl) (fun x v hv=>by simp[spC]at hv;rcases hv with rfl|rfl<;>rfl) (fun x y:Sp=>Lib.compareInt x.1 y.1) swoSp 221 #[] g 0 c1 l.toArray w1 eg (fun _ _ _ _ x y=>cmpClosure_any x y _) (holds_own hown) hg2 (by simp;omega)
 change Calls Tryz.prog 220 _ _ _ at hS
 rw[show l.toArray.size=l.length by simp]at hS
 have HSC:=qh hS
 have HH:=qh (holds_own hown)
 clear hS hA;go_wp2_with fail
 refine HSC.out.mono ?_
 rintro e w2 ⟨rfl,d,n,os,hp,hs,hw2⟩
 have hg:=grownBy_sortSp (w:=w1) (g:=g) (n:=n) (os:=os) d
 have hsz:d.size=l.toArray.size:=by have:=hp.1;simpa using this
 have hrd:=rd_holds (holdsK_sortWorldK_c spC 2 w1 g 0 l.toArray d n os HH.out hg2 hsz)
 rw[← hw2]at hg hrd;obtain⟨hperm,hsrt⟩:=srt_of (by simpa using hp) (by simpa using hs)
 have hup2:Up w w2:=hup1.grown hg (fun k hk=>by cases hk;exact hg1)
 have hg3:g+1≤w2.heap.size:=Nat.le_trans hg2 hg.size
 have hlen:d.toList.length=l.length:=hperm.length_eq
 have HU:=qh (unL_of hperm hsrt HOK.out)
 have hbs:Hid (BdS d.toList):=qh (fun s hs'=>HBD.out s (hperm.mem_iff.1 hs'))
 generalize d.toList=S at *
 have HLN:=qh hlen
 rw[← HLN.out]at hn h0 hc1 ⊢
 clear hp hs hw2 hg hsz hown hperm hsrt hlen HSC HH;go_wp2;have hown1:=World.ownsRow_lit (base:=w2.heap.size) (e:=84) (size:=2) w2 #[] 0 (Nat.le_refl _) (by simp[maxLen]) rfl
 have hup1:=(Up.refl w2).allocs (.cells #[] 84)
 obtain⟨v1,hv1⟩:∃v,v=Value.slice (some ⟨w2.heap.size,0,none⟩) 0 0:=⟨_,rfl⟩
 rw[← hv1]at hown1 ⊢
 generalize w2.alloc (.cells #[] 84)=w3 at *
 clear hv1;go_loopw [4,6,7,15] (fun o bx la i wi=>∃k:Nat,∃O:List Sp,k≤S.length∧i=.int .i64 k∧O=(S.take k).foldl stpS []∧BdS O∧wi.ownsRow w2.heap.size 84 2 o O.length (O.flatMap spC)∧Up w2 wi) (fun _ _ _ i _=>S.length-(intOf i).toNat)
 case atStart=>exact⟨0,[],Nat.zero_le _,rfl,rfl,by intro s hs;simp at hs,hown1,hup1⟩
 case round =>
  obtain⟨k,O,hk,rfl,hO,hOb,hown0,hui0⟩:=hrel
  have HO:=qh hO
  have HOB:=qh hOb
  clear hO hOb;have hOn:O.length≤k:=by
   rw[HO.out];have:=foldS_len (S.take k) []
   rw[List.length_take]at this;simp only[List.length_nil]at this;omega
  by_cases hlt:k<S.length
  ·obtain⟨b,off,f,t,hbo,-,-,hd,q0s,q1s⟩:=(hrd.up hui0 hg3).sp hlt
   cases hbo;rw[Nat.zero_add]at q0s q1s;have HD:=qh hd
   have hb:=hbs.out _ (List.mem_of_getElem? hd)
   simp only at hb
   have HF:=qh (fold_succ hd)
   have HNB:=qh (HOB.out.stp (hbs.out _ (List.mem_of_getElem? hd)))
   clear hd;have hub:=Up.alloc wr (.cells #[.int .i64 f,.int .i64 t] 84)
   have q0:(wr.alloc (.cells #[.int .i64 f,.int .i64 t] 84)).cell? ⟨wr.heap.size,0,none⟩=some (.int .i64 f):=by go_simp
   have q1:(wr.alloc (.cells #[.int .i64 f,.int .i64 t] 84)).cell? ⟨wr.heap.size,1,none⟩=some (.int .i64 t):=by go_simp
   have hown:=own_up hown0 hub
   have hui:=hui0.trans hub
   rcases List.eq_nil_or_concat O with rfl|⟨o',z,rfl⟩
   ·simp only[List.length_nil,List.flatMap_nil]at hown
    obtain⟨A',c',rfl,hc',hm',hA,-⟩:=own_form hown
    go_wp2_with fail
    generalize wr.alloc (.cells #[.int .i64 f,.int .i64 t] 84)=wa at *
    refine wp_region_quiet_below (by kernel_rfl) (by kernel_rfl) ?_
    repeat (first|go_big_quiet_step (fail)|quiet_step (fail))
    refine wpQuiet_nil ?_
    intro w7 hw7
    obtain⟨⟨dq,osq⟩,hw7⟩:=hw7
    have hup7':Up wa w7:=by rw[hw7];exact below_regrown _ _ _
    clear hw7;have own7:=own_up hown hup7'
    have hup7:=hui.trans hup7'
    have k0:=hup7'.cell q0
    have k1:=hup7'.cell q1
    clear q0 q1 hown;have n1:0+1≤maxLen:=by unfold maxLen;omega
    have n2:(0+1)*16≤140737488355328:=by omega
    have n3:w2.heap.size≤(w7.alloc (.cells #[.int .i64 f,.int .i64 t] 84)).heap.size:=(hup7.allocs _).size
    go_wp2_with ((at_builtin;refine wpList_append_own _ rfl _ _ 76 rfl w2.heap.size 84 i0 _ 2 16 Tryz.underlying76 hi0 hz0 hz1 hz2 rfl (by decide) _ _ _ rfl (own7.alloc _) ⟨w7.heap.size,0,none⟩ 1 1 [.int .i64 f,.int .i64 t] rfl rfl (cell_two_newP _ _ _ _) (by simp[Value.oneCell']) n1 n2 n3 ?_))
    intro v' w4 hown' hgrow _
    have hu4:=(hup7.allocs (.cells #[.int .i64 f,.int .i64 t] 84)).grown hgrow (fun k hk=>(own7.lt k hk).1)
    clear hgrow own7;have HO4:=qh hown'
    clear hown';go_wp2;go_roundw
    case rel=>exact⟨k+1,_,by omega,by go_num,rfl,by rw[HF.out,← HO.out];exact HNB.out,by rw[HF.out,← HO.out,stpS_nil];simpa[spC] using HO4.out,hu4⟩
    case measure=>simp[intOf];omega
   ·rw[List.concat_eq_append]at *
    obtain⟨zf,zt⟩:=z
    have hzb:=HOB.out (zf,zt) (by simp)
    simp only at hzb
    have hzget:(o'++[(zf,zt)])[o'.length]?=some (zf,zt):=by simp
    simp only[List.length_append,List.length_singleton]at hown hOn
    obtain⟨m,hm⟩:∃m,m=o'.length:=⟨_,rfl⟩
    rw[← hm]at hzget hown hOn;have HM:=qh hm
    clear hm;obtain⟨n,hnm⟩:∃n,n=m+1:=⟨_,rfl⟩
    rw[← hnm]at hown hOn;have hmn:m<n:=by omega
    have hidx:IntKind.i64.wrap ((n:Int)-1)=(m:Int):=by rw[IntWalk.i64_in _ (by omega)];omega
    have hn5:n≤100000:=by omega
    have hn6:1≤n:=by omega
    have HNM:=qh hnm
    clear hnm;obtain⟨A',c',rfl,hc',hm',hA,-⟩:=own_form hown
    obtain⟨g',rfl,hg1,hg2⟩:=hA (by omega)
    have r1:=(hown.cellAt (m*2+1) (by omega)).trans (flat_get spC 2 spC_len _ m _ hzget 1 _ rfl)
    have r0:=(hown.cellAt (m*2) (by omega)).trans (flat_get spC 2 spC_len _ m _ hzget 0 _ rfl)
    have hwr2:IntKind.i64.wrap (zt+1)=zt+1:=IntWalk.i64_in _ (by omega)
    have Q0:=cell_regrown q0
    have R1:=cell_regrown r1
    clear hzget;by_cases hjn:f≤zt+1<;>have HJ:=qh hjn
    ·have hjn1:decide (f≤zt+1)=true:=by simpa using hjn
     go_wp2_with fail
     generalize wr.alloc (.cells #[.int .i64 f,.int .i64 t] 84)=wa at *
     refine wp_region_quiet_below (by kernel_rfl) (by kernel_rfl) ?_
     repeat (first|go_big_quiet_step (fail)|quiet_step (fail))
     refine wpQuiet_nil ?_
     intro w7 hw7
     obtain⟨⟨dq,osq⟩,hw7⟩:=hw7
     have hup7':Up wa w7:=by rw[hw7];exact below_regrown _ _ _
     clear hw7;have own7:=own_up hown hup7'
     have hup7:=hui.trans hup7'
     have k1:=hup7'.cell q1
     have t1:=hup7'.cell r1
     clear q0 q1 hown Q0 R1 r0 r1 hwr2 hjn1 hjn;have z1:=own7.frozenAt (m*2+1)
     have hdr:Up w7 w7.drew:=(Up.refl w7).drew
     have ownd:=own_up own7 hdr
     have hmax:(if zt<t then t else zt)=max zt t:=by split<;>omega
     have s1:=ownd.stored (m*2+1) (.int .i64 (if zt<t then t else zt))
     have hset:=last_set (o:=o') (z:=(zf,zt)) (t:=if zt<t then t else zt)
     rw[← HM.out]at hset;rw[hset]at s1;have SS:=qh (And.intro s1.1 ((hup7.trans hdr).grown s1.2 (fun k hk=>by simp at hk;omega)))
     have HMX:=qh hmax
     clear s1 hset ownd own7 hmax;go_wp2_with fail
     go_still_tail 10,(by kernel_rfl)
     change wpList _ _ _ _ _ w7.drew
     go_wp2;go_roundw
     case rel=>exact⟨k+1,_,by omega,by go_num,rfl,by rw[HF.out,← HO.out];exact HNB.out,by rw[HF.out,← HO.out,stpS_snoc,if_pos (show f≤zt+1 by have:=HJ.out;omega),List.length_append,List.length_singleton,← HM.out,← HNM.out];simp only[← HMX.out];exact SS.out.1,by rw[← HMX.out];exact SS.out.2⟩
     case measure=>simp[intOf];omega
    ·have hjn1:decide (f≤zt+1)=false:=by simpa using hjn
     go_wp2_with fail
     generalize wr.alloc (.cells #[.int .i64 f,.int .i64 t] 84)=wa at *
     refine wp_region_quiet_below (by kernel_rfl) (by kernel_rfl) ?_
     repeat (first|go_big_quiet_step (fail)|quiet_step (fail))
     refine wpQuiet_nil ?_
     intro w7 hw7
     obtain⟨⟨dq,osq⟩,hw7⟩:=hw7
     have hup7':Up wa w7:=by rw[hw7];exact below_regrown _ _ _
     clear hw7;have own7:=own_up hown hup7'
     have hup7:=hui.trans hup7'
     have k0:=hup7'.cell q0
     have k1:=hup7'.cell q1
     clear q0 q1 hown Q0 R1;have n1:n+1≤maxLen:=by unfold maxLen;omega
     have n2:(n+1)*16≤140737488355328:=by omega
     have n3:w2.heap.size≤(w7.alloc (.cells #[.int .i64 f,.int .i64 t] 84)).heap.size:=(hup7.allocs _).size
     go_wp2_with ((at_builtin;refine wpList_append_own _ rfl _ _ 76 rfl w2.heap.size 84 i0 _ 2 16 Tryz.underlying76 hi0 hz0 hz1 hz2 rfl (by decide) _ _ _ rfl (own7.alloc _) ⟨w7.heap.size,0,none⟩ 1 1 [.int .i64 f,.int .i64 t] rfl rfl (cell_two_newP _ _ _ _) (by simp[Value.oneCell']) n1 n2 n3 ?_))
     intro v' w4 hown' hgrow _
     have hu4:=(hup7.allocs (.cells #[.int .i64 f,.int .i64 t] 84)).grown hgrow (fun k hk=>(own7.lt k hk).1)
     clear hgrow own7;have HO4:=qh hown'
     clear hown';go_wp2;go_roundw
     case rel=>exact⟨k+1,_,by omega,by go_num,rfl,by rw[HF.out,← HO.out];exact HNB.out,by rw[HF.out,← HO.out,stpS_snoc,if_neg (show ¬ f≤zt+1 by have:=HJ.out;omega)];have h4:=HO4.out;rw[HNM.out,HM.out]at h4;simpa[spC] using h4,hu4⟩
     case measure=>simp[intOf];omega
  ·obtain rfl:k=S.length:=by omega
   have hfin:O=unL l:=by rw[← HU.out,HO.out,List.take_of_length_le (Nat.le_refl _)]
   subst hfin;go_wp2;go_ret;exact⟨_,rfl,own_base hown0 hup2.size,hup2.trans hui0⟩
end Go.Proofs.YtihcmhmanfobcaaGreatDoor
