/- The days of a witness, the reference's. -/
import Derived.Test.YtihcmhmanfobcaaGreatDoorCg
import Derived.Test.YtihcmhmanfobcaaGreatDoorDel
set_option maxHeartbeats 4000000
set_option maxRecDepth 100000
namespace Go.Proofs.YtihcmhmanfobcaaGreatDoor
open Go.RowKit Go.Sort
noncomputable def couS (ps:List Nm) (ts:List Tm) (z:Wi):List Sp:=dset fun n=>wsgB ps ts z n
theorem couS_of{ps:List Nm}{ts:List Tm}{z:Wi}(h:z.of_.toList≠[])(hd:∀d∈ts,spanB d.fr d.to_=true):unL (ofL ts z.of_ z.pe)=couS ps ts z:=by
 rw[unL_dset (ofL_dy hd)];refine dset_congr fun n _ _=>?_
 unfold wsgB;rw[if_neg h]
theorem couS_pe{ps:List Nm}{ts:List Tm}{z:Wi}{k:Nat}{d:Nm}(h:z.of_.toList=[])(hd:∀d∈ps,spanB d.fr d.to_=true)(hk:ps[k]?=some d)(hn:(d.nm.toList==z.pe.toList)=true)(hb:∀j x,j<k→ps[j]?=some x→(x.nm.toList==z.pe.toList)=false):[(d.fr,d.to_)]=couS ps ts z:=by
 have hs:=hd d (List.mem_of_getElem? hk)
 simp[spanB,dayB,inB]at hs
 rw[dset_one hs.1.1 (by omega) (by omega)]
 refine dset_congr fun n _ _=>?_
 have hf:ps.find? (fun x=>x.nm.toList==z.pe.toList)=some d:=by
  rw[List.find?_eq_some_iff_getElem];obtain⟨h1,h2⟩:=List.getElem?_eq_some_iff.1 hk
  refine⟨hn,k,h1,h2,fun j hj=>?_⟩
  have:=hb j _ hj (List.getElem?_eq_getElem (by omega))
  simpa using this
 unfold wsgB;rw[if_pos h,hf];rfl
theorem couS_len{ps:List Nm}{ts:List Tm}{z:Wi}(hd:∀d∈ts,spanB d.fr d.to_=true)(hd2:∀d∈ps,spanB d.fr d.to_=true)(hw:nmIn ps z.pe=true):(couS ps ts z).length≤ts.length+1:=by
 by_cases hz:z.of_.toList=[]
 ·rcases ixB_or ps (fun x=>x.nm.toList==z.pe.toList) with⟨-,h2⟩|⟨k,d,-,h2,h3,h4⟩
  ·exfalso
   obtain⟨x,hx,hx2⟩:=List.any_eq_true.1 hw
   rw[h2 x hx]at hx2;cases hx2
  ·rw[← couS_pe hz hd2 h2 h3 h4];simp
 ·rw[← couS_of hz hd]
  have:=unL_len (ofL ts z.of_ z.pe)
  have:=ofL_len ts z.of_ z.pe
  omega
theorem l13Could_any(s:Sl Nm)(t:Sl Tm)(z:Wi)(lo hi lo' hi':Nat)(w:World)(h:SrNm w lo hi s)(h':SrTm w lo' hi' t)(hn':t.l.length≤100000)(hd:∀d∈s.l,spanB d.fr d.to_=true)(hd':∀d∈t.l,spanB d.fr d.to_=true)(hw:nmIn s.l z.pe=true) :
 Calls Tryz.prog 98 #[.agg #[.slice s.A s.l.length s.c,.slice t.A t.l.length t.c],z.val] w fun e w'=>∃v,e=.returned v∧w'.ownsRow w.heap.size 84 2 v (couS s.l t.l z).length ((couS s.l t.l z).flatMap spC)∧Up w w':=by
 obtain⟨i0,hi0,hz0,hz1,hz2⟩:=info_parts infoSp
 have u:=(Up.alloc w (.cells #[.slice s.A s.l.length s.c,.slice t.A t.l.length t.c] 52)).allocs (.cells #[.string z.pe,.string z.of_] 167)
 have hC:=(Bx.new w #[.slice s.A s.l.length s.c,.slice t.A t.l.length t.c] 52).up (Up.alloc _ (.cells #[.string z.pe,.string z.of_] 167))
 have hD:=Bx.new (w.alloc (.cells #[.slice s.A s.l.length s.c,.slice t.A t.l.length t.c] 52)) #[.string z.pe,.string z.of_] 167
 have CO:=qh (fun(wx:World) (v:Up w wx)=>l13Office_any s.A s.l.length s.c t z.of_ z.pe lo' hi' wx (h'.up v) hn' hd')
 have CP:=qh (fun(wx:World) (v:Up w wx)=>l13Person_any s t z.pe lo hi wx (h.up v))
 have hsz:(w.alloc (.cells #[.slice s.A s.l.length s.c,.slice t.A t.l.length t.c] 52)).heap.size=w.heap.size+1:=by simp
 rw[hsz]at hD;have HL:=qh (couS_of (ps:=s.l) (ts:=t.l) (z:=z) · hd')
 have HK:=qh (fun k d (a:z.of_.toList=[])=>couS_pe (ps:=s.l) (ts:=t.l) (z:=z) (k:=k) (d:=d) a hd)
 have HR:=qh h
 clear hd hd' hn' h' h;obtain⟨pe,of_⟩:=z
 obtain⟨A,c,l⟩:=s
 obtain⟨B,c',m⟩:=t
 simp only[]at *;by_cases h1:of_.toList=[]
 ·have h1e:of_.toList.isEmpty=true:=by simp[h1]
  have H1:=qh h1
  clear h1;obtain⟨k,d,hpx,hk,hnm,hbf⟩:∃(k:Nat) (d:Nm),pix l pe=k∧l[k]?=some d∧(d.nm.toList==pe.toList)=true∧∀j x,j<k→l[j]?=some x→(x.nm.toList==pe.toList)=false:=by
   rcases ixB_or l (fun x=>x.nm.toList==pe.toList) with⟨-,h2⟩|h2
   ·exfalso
    obtain⟨x,hx,hx2⟩:=List.any_eq_true.1 hw
    rw[h2 x hx]at hx2;cases hx2
   ·exact h2
  have hkl:=(List.getElem?_eq_some_iff.1 hk).1
  have hkm:k<2000000:=by have:=HR.out.len;exact Nat.lt_of_lt_of_le hkl this
  have HE:=qh (HK.out k d H1.out hk hnm hbf)
  have hpc:=fun(wx:World) (v:Up w wx)=>CP.out wx v
  simp only[hpx]at hpc
  have CQ:=qh hpc
  obtain⟨b,off,d',rfl,-,-,hd,q0,q1,q2⟩:=(HR.out.rd.up u HR.out.hhi).nm hkl
  rw[hk]at hd;cases hd;clear hpc hpx hk hnm hbf CP hw HK HL CO;go_enter Tryz.func98,Tryz.ntmps98
  go_wp2_with fail
  generalize (w.alloc (.cells #[.slice (some ⟨b,off,none⟩) l.length c,.slice B m.length c'] 52)).alloc (.cells #[.string pe,.string of_] 167)=W1 at *
  clear hsz;obtain⟨c0,c1⟩:=hC.c2
  obtain⟨d0,d1⟩:=hD.c2
  have c0a:=fun o=>(Up.alloc W1 o).cell c0
  have c1a:=fun o=>(Up.alloc W1 o).cell c1
  have d0a:=fun o=>(Up.alloc W1 o).cell d0
  go_region_law (first
   |(go_simp;go_at_call 148;with_reducible refine(CQ.out _ (by first|exact u|exact u.drew|exact u.allocs _|exact(u.allocs _).drew)).mono ?_;rintro e w3 ⟨rfl,v1⟩;have V1:Up W1 w3:=(by first|exact v1|exact(Up.refl _).drew.trans v1|exact((Up.refl _).allocs _).trans v1|exact((Up.refl _).allocs _).drew.trans v1);have p0:=V1.cell q0;have p1:=V1.cell q1;have p2:=V1.cell q2;have e0:=V1.cell c0;have e1:=V1.cell d0;have p0a:=fun o=>(Up.alloc w3 o).cell p0;have p1a:=fun o=>(Up.alloc w3 o).cell p1;have p2a:=fun o=>(Up.alloc w3 o).cell p2;have e0a:=fun o=>(Up.alloc w3 o).cell e0;(first|have BB:Bx w3 W1.heap.size [.string ⟨#[]⟩,.int .i64 0,.int .i64 0]:=Bx.up (Bx.new W1 #[.string ⟨#[]⟩,.int .i64 0,.int .i64 0] 229) ((Up.refl (W1.alloc (.cells #[.string ⟨#[]⟩,.int .i64 0,.int .i64 0] 229))).drew.trans v1)|have BB:True:=trivial);try (obtain⟨t0,t1,t2⟩:=BB.c3);try (obtain⟨g0,g1,g2⟩:=BB.f3)))
  all_goals first
   |(have hX:=((BB.put 0 (.string d.nm)).put 1 (.int .i64 d.fr)).put 2 (.int .i64 d.to_)
     simp only[List.set_cons_zero,List.set_cons_succ]at hX
     have hU:=((V1.setCell (p:=⟨W1.heap.size,0,none⟩) (Nat.le_refl _) (.string d.nm)).setCell (p:=⟨W1.heap.size,1,none⟩) (Nat.le_refl _) (.int .i64 d.fr)).setCell (p:=⟨W1.heap.size,2,none⟩) (Nat.le_refl _) (.int .i64 d.to_)
     generalize ((w3.setCell ⟨W1.heap.size,0,none⟩ (.string d.nm)).setCell ⟨W1.heap.size,1,none⟩ (.int .i64 d.fr)).setCell ⟨W1.heap.size,2,none⟩ (.int .i64 d.to_)=X at *
     obtain⟨x0,x1,x2⟩:=hX.c3
     have hu:=u.trans hU
     clear hX hU c0a c1a d0a c0 c1 d0 d1;go_wp2;go_ret;exact⟨_,rfl,by rw[← HE.out];exact World.ownsRow_lit (base:=w.heap.size) (e:=84) (size:=2) X #[.int .i64 d.fr,.int .i64 d.to_] 1 hu.size (by simp[maxLen]) rfl,hu.allocs _⟩)
   |(have hX:=Bx.new w3 #[.string d.nm,.int .i64 d.fr,.int .i64 d.to_] 229
     have hU:=V1.allocs (.cells #[.string d.nm,.int .i64 d.fr,.int .i64 d.to_] 229)
     generalize w3.alloc (.cells #[.string d.nm,.int .i64 d.fr,.int .i64 d.to_] 229)=X at *
     obtain⟨x0,x1,x2⟩:=hX.c3
     have hu:=u.trans hU
     clear hX hU c0a c1a d0a c0 c1 d0 d1;go_wp2;go_ret;exact⟨_,rfl,by rw[← HE.out];exact World.ownsRow_lit (base:=w.heap.size) (e:=84) (size:=2) X #[.int .i64 d.fr,.int .i64 d.to_] 1 hu.size (by simp[maxLen]) rfl,hu.allocs _⟩)
 ·have h1e:of_.toList.isEmpty=false:=by simp[h1]
  have H1:=qh h1
  clear h1;go_enter Tryz.func98,Tryz.ntmps98
  go_wp2_with fail
  generalize (w.alloc (.cells #[.slice A l.length c,.slice B m.length c'] 52)).alloc (.cells #[.string pe,.string of_] 167)=W1 at *
  clear hsz;refine(CO.out _ u).mono ?_
  rintro e w3 ⟨v,rfl,ho,hu3⟩
  have HO3:=qh (own_base ho u.size)
  clear ho;go_wp2;go_ret;exact⟨v,rfl,by rw[← HL.out H1.out];exact HO3.out,u.trans hu3⟩
noncomputable def sgnS (ps:List Nm) (ts:List Tm) (l:List Wi):List Sp:=dset fun n=>l.all fun z=>wsgB ps ts z n
theorem sgnS_nil(ps:List Nm)(ts:List Tm):[((0:Int),(730499:Int))]=sgnS ps ts []:=dset_all
theorem sgnS_succ{ps:List Nm}{ts:List Tm}{l:List Wi}{k:Nat}{d:Wi}(hd:l[k]?=some d):metL (sgnS ps ts (l.take k)) (couS ps ts d)=sgnS ps ts (l.take (k+1)):=by
 unfold sgnS couS
 rw[metL_dset];refine dset_congr fun n _ _=>?_
 rw[List.take_succ_eq_append_getElem (List.getElem?_eq_some_iff.1 hd).1,(List.getElem?_eq_some_iff.1 hd).2,List.all_append];simp
theorem l13Signing_any(s:Sl Nm)(t:Sl Tm)(q:Sl Wi)(lo hi lo' hi' lo2 hi2:Nat)(w:World)(h:SrNm w lo hi s)(h':SrTm w lo' hi' t)(h2:SrWi w lo2 hi2 q)(hn':t.l.length≤60)(hd:∀d∈s.l,spanB d.fr d.to_=true)(hd':∀d∈t.l,spanB d.fr d.to_=true)(hw:wiB s.l q.l=true) :
 Calls Tryz.prog 51 #[.agg #[.slice s.A s.l.length s.c,.slice t.A t.l.length t.c],.slice q.A q.l.length q.c] w fun e w'=>∃v,e=.returned v∧w'.ownsRow w.heap.size 84 2 v (sgnS s.l t.l q.l).length ((sgnS s.l t.l q.l).flatMap spC)∧Up w w':=by
 have hw1:q.l.length≤12∧∀x∈q.l,nmIn s.l x.pe=true:=by
  simp only[wiB,Bool.and_eq_true,decide_eq_true_eq,List.all_eq_true]at hw
  exact hw
 obtain⟨hw1,hw2⟩:=hw1
 have u:=Up.alloc w (.cells #[.slice s.A s.l.length s.c,.slice t.A t.l.length t.c] 52)
 have hC:=Bx.new w #[.slice s.A s.l.length s.c,.slice t.A t.l.length t.c] 52
 have CC:=qh (fun(d:Wi) (hm:d∈q.l) (wx:World) (v:Up w wx)=>l13Could_any s t d lo hi lo' hi' wx (h.up v) (h'.up v) (by omega) hd hd' (hw2 d hm))
 have CL:=qh (fun(d:Wi) (hm:d∈q.l)=>couS_len (ps:=s.l) (ts:=t.l) (z:=d) hd' hd (hw2 d hm))
 obtain⟨Q,qc,m⟩:=q
 obtain⟨A,c,l⟩:=s
 obtain⟨B,c',l'⟩:=t
 have hr:=h2.rd
 have hhi:=h2.hhi
 clear hw hd hd' hw2 h h' h2;simp only[]at *;go_enter Tryz.func51,Tryz.ntmps51
 go_wp2_with fail
 generalize w.alloc (.cells #[.slice A l.length c,.slice B l'.length c'] 52)=W0 at *
 refine(l13All_any W0).mono ?_
 rintro e w1 ⟨v0,rfl,ho,v⟩
 rw[sgnS_nil l l']at ho;have hO1:=qh (show(sgnS l l' (m.take 0)).length≤1+61*0 by show(sgnS l l' []).length≤_;rw[← sgnS_nil];simp)
 go_wp2_with fail
 go_loopw [5,6] (fun o i wr=>∃k:Nat,∃O:List Sp,k≤m.length∧i=.int .i64 k∧Hid (O=sgnS l l' (m.take k))∧O.length≤1+61*k∧wr.ownsRow W0.heap.size 84 2 o O.length (O.flatMap spC)∧Up W0 wr) (fun _ i _=>m.length-(intOf i).toNat)
 case atStart=>exact⟨0,sgnS l l' [],Nat.zero_le _,rfl,qh rfl,hO1.out,ho,v⟩
 case round =>
  clear ho v hO1;obtain⟨k,O,hk,rfl,HO,hOn,hown,hui⟩:=hrel
  obtain⟨Ao,co,rfl,hco,hcm,-,-⟩:=own_form hown
  have hup:=u.trans hui
  obtain⟨c0,c1⟩:=(hC.up hui).c2
  by_cases hlt:k<m.length
  ·obtain⟨b,off,d,rfl,hlo,hb,hd,q0,q1⟩:=(hr.up hup hhi).wi hlt
   have CD:=qh (CC.out d (List.mem_of_getElem? hd))
   have hcl:=CL.out d (List.mem_of_getElem? hd)
   have HS:=qh (sgnS_succ (ps:=l) (ts:=l') hd)
   clear hd;obtain⟨S,hS⟩:∃z,z=couS l l' d:=⟨_,rfl⟩
   rw[← hS]at CD HS hcl;clear hS;obtain⟨pe,of_⟩:=d
   simp only[]at *;go_wp2_with fail
   go_region_law (first
    |(go_simp;go_at_call 98;with_reducible refine(CD.out _ (by first|exact hup|exact hup.drew)).mono ?_;rintro e w3 ⟨v3,rfl,ho3,v1⟩;have V1:Up wr w3:=(by first|exact v1|exact(Up.refl _).drew.trans v1);obtain⟨A3,c3,rfl,hc3,hm3,-,-⟩:=own_form ho3)
    |(go_simp;go_at_call 21;with_reducible refine(specMeet_any Ao A3 O S co c3 _ _ _ _ w3 (Rd.own spC_len (own_up hown V1)) (Nat.le_refl _) (Rd.own spC_len ho3) (Nat.le_refl _) (by omega) (by omega)).mono ?_;rintro e w4 ⟨v4,rfl,ho4,v2⟩;have V2:Up wr w4:=V1.trans v2))
   all_goals
    have hown4:=own_base ho4 (Nat.le_trans hui.size V1.size)
    have hu4:=hui.trans V2
    have hl4:=metL_len O S
    clear ho4 ho3 hown v1 v2 V1 V2 q0 q1 c0 c1;rw[HO.out,HS.out]at hown4 hl4;rw[← HO.out]at hl4;go_wp2;go_roundw
    case rel=>exact⟨k+1,sgnS l l' (m.take (k+1)),by omega,by go_num,qh rfl,by omega,hown4,hu4⟩
    case measure=>simp[intOf];omega
  ·obtain rfl:k=m.length:=by omega
   have HE:=qh (show O=sgnS l l' m by rw[HO.out,List.take_of_length_le (Nat.le_refl _)])
   have hown':=own_base hown u.size
   clear hown;go_wp2;go_ret;exact⟨_,rfl,by rw[← HE.out];exact hown',hup⟩
end Go.Proofs.YtihcmhmanfobcaaGreatDoor
