/- The days on which a phrase is possible: the reference's and the program's walks. -/
import Derived.Test.YtaoplcclemckjaaGreatDoorSpUse
import Derived.Test.YtaoplcclemckjaaGreatDoorSpMetS
import Derived.Test.YtaoplcclemckjaaGreatDoorSpMetI
import Derived.Test.YtaoplcclemckjaaGreatDoorDel
set_option maxHeartbeats 4000000
set_option maxRecDepth 100000
namespace Go.Proofs.YtaoplcclemckjaaGreatDoor
open Go.RowKit Go.Sort
def wsAt(ps:List FmP)(i:Int):List ByteArray:=((ps[i.toNat]?).map (·.1)).getD []
theorem wsAt_get{l:List Fm}{j:Nat}{x:Fm}(h:l[j]?=some x):wsAt (l.map Fm.p) (j:Int)=x.ws:=by
 unfold wsAt;rw[Int.toNat_natCast,List.getElem?_map,h];rfl
def stpD(ps:List FmP)(out:List Sp)(i:Int):List Sp:=metL out (setL ps (wsAt ps i))
def pdL(P:List ByteArray)(ps:List FmP):List Sp:=(occL P ps).foldl (stpD ps) [(0,730499)]
def pdS(P:List ByteArray)(ps:List FmP):List Sp:=if fiB P ps=true then pdL P ps else []
theorem pd_1{P:List ByteArray}{ps:List FmP}(h:fiB P ps=false):fiC P ps=1∧pdS P ps=[]:=by simp[fiC,pdS,h]
theorem pd_0{P:List ByteArray}{ps:List FmP}(h:fiB P ps=true):fiC P ps=0∧pdS P ps=pdL P ps:=by simp[fiC,pdS,h]
theorem foldD_len(ps:List FmP):∀(l:List Int) (o:List Sp),(l.foldl (stpD ps) o).length≤o.length+l.length*ps.length
 | [],o=>by simp
 | i :: l,o=>by
   have h1:=foldD_len ps l (stpD ps o i)
   have h2:(stpD ps o i).length≤o.length+ps.length:=Nat.le_trans (metL_len _ _) (Nat.add_le_add_left (setL_len _ _) _)
   simp only[List.foldl_cons,List.length_cons,Nat.add_mul,Nat.one_mul]
   omega
theorem foldD_succ{ps:List FmP}{l:List Int}{k:Nat}{i:Int}(h:l[k]?=some i)(o:List Sp):(l.take (k+1)).foldl (stpD ps) o=stpD ps ((l.take k).foldl (stpD ps) o) i:=by
 rw[List.take_succ_eq_append_getElem (List.getElem?_eq_some_iff.1 h).1,(List.getElem?_eq_some_iff.1 h).2,List.foldl_append];rfl
theorem occ_mem{P:List ByteArray}{ps:List FmP}{z:Int}(h:z∈occL P ps):∃j:Nat,z=(j:Int)∧j<ps.length∧occB P ps j=true:=by
 unfold occL pl at h
 obtain⟨j,hj,rfl⟩:=List.mem_map.1 h
 have:=List.mem_filter.1 hj
 exact⟨j,rfl,by simpa using this.1,this.2⟩
theorem occ_len(P:List ByteArray)(ps:List FmP):(occL P ps).length≤ps.length:=pl_len _ _
theorem alL_self(a:List ByteArray):alL a a=true:=by simp[alL]
theorem afP_fm{ps:List FmP}(h:afP ps=true):∀p∈ps,fmB p=true:=by
 unfold afP at h
 rw[Bool.and_eq_true,Bool.not_eq_true',List.any_eq_false]at h;intro p hp;simpa using h.2 p hp
theorem afP_fm'{l:List Fm}(h:afP (l.map Fm.p)=true):∀x∈l,fmB x.p=true:=fun x hx=>afP_fm h x.p (List.mem_map_of_mem hx)
theorem l13All_any(w:World):Calls Tryz.prog 135 #[] w fun e w'=>∃v,e=.returned v∧w'.ownsRow w.heap.size 83 2 v [((0:Int),(730499:Int))].length ([((0:Int),(730499:Int))].flatMap spC)∧Up w w':=by
 have hown:=World.ownsRow_lit (base:=w.heap.size) (e:=83) (size:=2) w #[.int .i64 0,.int .i64 730499] 1 (Nat.le_refl _) (by simp[maxLen]) rfl
 go_enter Tryz.func135,Tryz.ntmps135
 go_wp2;go_ret;exact⟨_,rfl,hown,(Up.refl w).allocs _⟩
theorem occ_at{w:World}{lo hi:Nat}{A:Option Addr}{l:List Fm}{P:List ByteArray}{k:Nat}{z:Int}(hr:RdF w lo hi A l)(hz:(occL P (l.map Fm.p))[k]?=some z) :
 ∃(j:Nat) (b off:Nat) (d:Fm),z=(j:Int)∧j<l.length∧A=some ⟨b,off,none⟩∧l[j]?=some d∧RdT w lo hi d.A d.ws∧w.cell? ⟨b,off+j*3,none⟩=some (.slice d.A d.ws.length d.c):=by
 obtain⟨j,hzj,hj,-⟩:=occ_mem (List.mem_of_getElem? hz)
 rw[List.length_map]at hj;obtain⟨b,off,d,e,-,-,hd,hin,q0,-,-⟩:=hr.at_ hj
 exact⟨j,b,off,d,hzj,hj,e,hd,hin,q0⟩
theorem phraseDays_any(A B:Option Addr)(l:List Fm)(P:List ByteArray)(ca cb lo hi lo' hi':Nat)(w:World)(hr:RdF w lo hi A l)(hhi:hi≤w.heap.size)(hr':RdT w lo' hi' B P)(hhi':hi'≤w.heap.size)
 (hP:∀x∈P,x.size<32) (hn':P.length≤2000000) (hcb:P.length≤cb) (haf:afP (l.map Fm.p)=true) :
 Calls Tryz.prog 61 #[.slice A l.length ca,.slice B P.length cb] w fun e w'=>∃v,e=.returned v∧w'.ownsRow w.heap.size 83 2 v (pdL P (l.map Fm.p)).length ((pdL P (l.map Fm.p)).flatMap spC)∧Up w w':=by
 have hl20:l.length≤20:=by have:=(afP_small haf).1;rwa [List.length_map]at this
 have HF:=qh (afP_fm' haf)
 have hup1:=Up.alloc w (.cells #[.int .i64 0,.int .i64 730499] 83)
 have hown1:=World.ownsRow_lit (base:=w.heap.size) (e:=83) (size:=2) w #[.int .i64 0,.int .i64 730499] 1 (Nat.le_refl _) (by simp[maxLen]) rfl
 have HI:=qh (formulasIn_any A B l P ca cb lo hi lo' hi' _ (hr.up hup1 hhi) (Nat.le_trans hhi hup1.size) (hr'.up hup1 hhi') (Nat.le_trans hhi' hup1.size) hP hn' hcb (SmF.of haf) (by omega))
 clear haf hP;go_enter Tryz.func61,Tryz.ntmps61
 go_wp2_with fail
 generalize w.alloc (.cells #[.int .i64 0,.int .i64 730499] 83)=w1 at *
 refine HI.out.mono ?_
 rintro e w2 ⟨v,rfl,hoi,hup2⟩
 obtain⟨Ai,ci,rfl,hci,hcim,-,-⟩:=own_form hoi
 have hri:=Rd.own int_len hoi
 have hol:=occ_len P (l.map Fm.p)
 rw[List.length_map]at hol;have HFD:=qh (show pdL P (l.map Fm.p)=(occL P (l.map Fm.p)).foldl (stpD (l.map Fm.p)) [(0,730499)] from rfl)
 obtain⟨I,hI⟩:∃I,I=occL P (l.map Fm.p):=⟨_,rfl⟩
 rw[← hI]at hri hol hci HFD hoi ⊢
 have HI2:=qh hI
 have hup02:=hup1.trans hup2
 have hown2:=own_up hown1 hup2
 clear hI hoi HI;obtain⟨v1,hv1⟩:∃v,v=Value.slice (some ⟨w.heap.size,0,none⟩) 1 1:=⟨_,rfl⟩
 rw[← hv1]at hown2 ⊢
 clear hv1;go_wp2;go_loopw [5,7,14] (fun o x i wr=>∃k:Nat,∃O:List Sp,k≤I.length∧i=.int .i64 k∧O=(I.take k).foldl (stpD (l.map Fm.p)) [(0,730499)]∧O.length≤1+k*20∧wr.ownsRow w.heap.size 83 2 o O.length (O.flatMap spC)∧Up w2 wr) (fun _ _ i _=>I.length-(intOf i).toNat)
 case atStart=>exact⟨0,[(0,730499)],Nat.zero_le _,rfl,rfl,by simp,hown2,Up.refl _⟩
 case round =>
  obtain⟨k,O,hk,rfl,hO,hOn,hown,hup⟩:=hrel
  have HO:=qh hO
  clear hO;obtain⟨Ao,co,rfl,hco,hcm,-,-⟩:=own_form hown
  have hupw:=hup02.trans hup
  by_cases hlt:k<I.length
  ·obtain⟨bi,oi,z,rfl,-,-,hz,p0⟩:=(hri.up hup (Nat.le_refl _)).int hlt
   obtain⟨j,b,off,d,rfl,hj,rfl,hd,hin,q0⟩:=occ_at (hr.up hupw hhi) (by rw[← HI2.out];exact hz)
   have hsd:=fmB_small (HF.out d (List.mem_of_getElem? hd))
   have hsd2:d.ws.length≤60:=hsd.2.1
   have HST:=qh (foldD_succ (ps:=l.map Fm.p) hz [(0,730499)])
   have HWS:=qh (wsAt_get hd)
   have HU:=qh (wordsDays_any (some ⟨b,off,none⟩) d.A l d.ws ca d.c lo hi lo hi wr (hr.up hupw hhi) (Nat.le_trans hhi hupw.size) hin (Nat.le_trans hhi hupw.size) hsd.1 (by omega) HF.out (by omega) ⟨d,List.mem_of_getElem? hd,alL_self _⟩)
   have hsl:=setL_len (l.map Fm.p) d.ws
   rw[List.length_map]at hsl;clear hsd hz hd hin;go_wp2_with fail
   refine HU.out.mono ?_
   rintro e w3 ⟨v3,rfl,ho3,hup3⟩
   obtain⟨A3,c3,rfl,-,-,-,-⟩:=own_form ho3
   have hown3:=own_up hown hup3
   have hr3:=Rd.own spC_len ho3
   have hro:=Rd.own spC_len hown3
   have hmul:k*20≤400:=by omega
   have HM:=qh (met_any Ao A3 O (setL (l.map Fm.p) d.ws) co c3 _ _ _ _ w3 hro (Nat.le_refl _) hr3 (Nat.le_refl _) (by omega) (by omega))
   have hml:=metL_len O (setL (l.map Fm.p) d.ws)
   clear ho3 hr3 hro hown hown3 HU;go_wp2_with fail
   refine HM.out.mono ?_
   rintro e w4 ⟨v4,rfl,ho4,hup4⟩
   have ho:=own_base ho4 (Nat.le_trans hupw.size hup3.size)
   have hupx:=(hup.trans hup3).trans hup4
   clear ho4 HM p0 q0;go_wp2;go_roundw
   case rel=>exact⟨k+1,metL O (setL (l.map Fm.p) d.ws),by omega,by go_num,by rw[HST.out,← HO.out,stpD,HWS.out],by omega,ho,hupx⟩
   case measure=>simp[intOf];omega
  ·obtain rfl:k=I.length:=by omega
   have hfin:O=pdL P (l.map Fm.p):=by rw[HFD.out,HO.out,List.take_of_length_le (Nat.le_refl _)]
   subst hfin;go_wp2;go_ret;exact⟨_,rfl,hown,hupw⟩
theorem specPhraseDays_any(A B:Option Addr)(l:List Fm)(P:List ByteArray)(ca cb lo hi lo' hi':Nat)(w:World)(hr:RdF w lo hi A l)(hhi:hi≤w.heap.size)(hr':RdT w lo' hi' B P)(hhi':hi'≤w.heap.size)
 (hok:∀x∈l,x.ok) (hws:∀x∈l,x.ws.length≤2000000) (hn:l.length≤2000000) (hP:∀s∈P,s.size≤maxLen) (hn':P.length≤2000000) (hcb:P.length≤cb) :
 Calls Tryz.prog 90 #[.slice A l.length ca,.slice B P.length cb] w fun e w'=>∃v,e=.returned (.tuple #[v,.int .i64 (fiC P (l.map Fm.p))])∧w'.ownsRow w.heap.size 83 2 v (pdS P (l.map Fm.p)).length ((pdS P (l.map Fm.p)).flatMap spC)∧Up w w':=by
 obtain⟨b1,hb1⟩:∃b,b=afB l:=⟨_,rfl⟩
 obtain⟨b2,hb2⟩:∃b,b=phB P:=⟨_,rfl⟩
 have C1:=specAreFormulas_any A l ca lo hi w hr hhi hok hws hn
 have C2:=fun(wx:World) (hx:Up w wx)=>l10Phrase_any B P cb lo' hi' wx (hr'.up hx hhi') hP hn'
 rw[← hb1]at C1;simp only[← hb2]at C2
 have H1:=qh C1
 have H2:=qh C2
 have HB1:=qh (hb1.trans (afB_p l))
 have HB2:=qh hb2
 clear C1 C2 hb1 hb2 hok hws hP;have HE:Hid (fiB P (l.map Fm.p)=(b1 && b2)):=qh (by unfold fiB;rw[← HB1.out,← HB2.out])
 cases b1
 ·have HF:=qh (pd_1 (HE.out.trans rfl))
  go_enter Tryz.func90,Tryz.ntmps90
  go_wp2_with fail
  refine H1.out.mono ?_
  rintro e w1 ⟨rfl,hu1⟩
  go_wp2;go_ret2;exact⟨_,ret_vk HF.out.1.symm,by rw[HF.out.2];exact World.ownsRow_nil _ _ _ _,hu1⟩
 ·cases b2
  ·have HF:=qh (pd_1 (HE.out.trans rfl))
   go_enter Tryz.func90,Tryz.ntmps90
   go_wp2_with fail
   refine H1.out.mono ?_
   rintro e w1 ⟨rfl,hu1⟩
   go_wp2_with fail
   refine(H2.out _ hu1).mono ?_
   rintro e w2 ⟨rfl,rfl⟩
   go_wp2;go_ret2;exact⟨_,ret_vk HF.out.1.symm,by rw[HF.out.2];exact World.ownsRow_nil _ _ _ _,hu1⟩
  ·have HFF:=qh (pd_0 (HE.out.trans rfl))
   have haf:=HB1.out.symm
   have hl20:l.length≤20:=by have:=(afP_small haf).1;rwa [List.length_map]at this
   have HF:=qh (afP_fm' haf)
   have HI:=qh (fun(wx:World) (hx:Up w wx)=>l24In_any A B l P ca cb lo hi lo' hi' wx (hr.up hx hhi) (Nat.le_trans hhi hx.size) (hr'.up hx hhi') (Nat.le_trans hhi' hx.size) (phB_small HB2.out.symm).1 hn' hcb (SmF.of haf) (by omega))
   have hol:=occ_len P (l.map Fm.p)
   rw[List.length_map]at hol;have HFD:=qh (show pdL P (l.map Fm.p)=(occL P (l.map Fm.p)).foldl (stpD (l.map Fm.p)) [(0,730499)] from rfl)
   obtain⟨I,hI⟩:∃I,I=occL P (l.map Fm.p):=⟨_,rfl⟩
   rw[← hI]at HI hol HFD;have HI2:=qh hI
   clear haf hI;go_enter Tryz.func90,Tryz.ntmps90
   go_wp2_with fail
   refine H1.out.mono ?_
   rintro e w1 ⟨rfl,hu1⟩
   go_wp2_with fail
   refine(H2.out _ hu1).mono ?_
   rintro e wx ⟨rfl,rfl⟩
   go_wp2_with fail
   refine(l13All_any _).mono ?_
   rintro e wy ⟨v1,rfl,hown1,hup1⟩
   have hu2:=hu1.trans hup1
   go_wp2_with fail
   refine(HI.out _ hu2).mono ?_
   rintro e w2 ⟨v,rfl,hoi,hup2⟩
   obtain⟨Ai,ci,rfl,hci,hcim,-,-⟩:=own_form hoi
   have hri:=Rd.own int_len hoi
   have hup02:=hu2.trans hup2
   have hown2:=own_base (own_up hown1 hup2) hu1.size
   clear hoi HI hown1 H1 H2;go_wp2;go_loopw [6,8] (fun o i wr=>∃k:Nat,∃O:List Sp,k≤I.length∧i=.int .i64 k∧O=(I.take k).foldl (stpD (l.map Fm.p)) [(0,730499)]∧O.length≤1+k*20∧wr.ownsRow w.heap.size 83 2 o O.length (O.flatMap spC)∧Up w2 wr) (fun _ i _=>I.length-(intOf i).toNat)
   case atStart=>exact⟨0,[(0,730499)],Nat.zero_le _,rfl,rfl,by simp,hown2,Up.refl _⟩
   case round =>
    obtain⟨k,O,hk,rfl,hO,hOn,hown,hup⟩:=hrel
    have HO:=qh hO
    clear hO;obtain⟨Ao,co,rfl,hco,hcm,-,-⟩:=own_form hown
    have hupw:=hup02.trans hup
    by_cases hlt:k<I.length
    ·obtain⟨bi,oi,z,rfl,-,-,hz,p0⟩:=(hri.up hup (Nat.le_refl _)).int hlt
     obtain⟨j,b,off,d,rfl,hj,rfl,hd,hin,q0⟩:=occ_at (hr.up hupw hhi) (by rw[← HI2.out];exact hz)
     have hsd:=fmB_small (HF.out d (List.mem_of_getElem? hd))
     have hsd2:d.ws.length≤60:=hsd.2.1
     have HST:=qh (foldD_succ (ps:=l.map Fm.p) hz [(0,730499)])
     have HWS:=qh (wsAt_get hd)
     have HU:=qh (specUse_any (some ⟨b,off,none⟩) d.A l d.ws ca d.c lo hi lo hi wr (hr.up hupw hhi) (Nat.le_trans hhi hupw.size) hin (Nat.le_trans hhi hupw.size) hsd.1 (by omega) HF.out (by omega))
     have hsl:=setL_len (l.map Fm.p) d.ws
     rw[List.length_map]at hsl;clear hsd hz hd hin;go_wp2_with fail
     refine HU.out.mono ?_
     rintro e w3 ⟨v3,rfl,ho3,hup3⟩
     obtain⟨A3,c3,rfl,-,-,-,-⟩:=own_form ho3
     have hown3:=own_up hown hup3
     have hr3:=Rd.own spC_len ho3
     have hro:=Rd.own spC_len hown3
     have HM:=qh (specMeet_any Ao A3 O (setL (l.map Fm.p) d.ws) co c3 _ _ _ _ w3 hro (Nat.le_refl _) hr3 (Nat.le_refl _) (by omega) (by omega))
     have hml:=metL_len O (setL (l.map Fm.p) d.ws)
     clear ho3 hr3 hro hown hown3 HU;go_wp2_with fail
     refine HM.out.mono ?_
     rintro e w4 ⟨v4,rfl,ho4,hup4⟩
     have ho:=own_base ho4 (Nat.le_trans hupw.size hup3.size)
     have hupx:=(hup.trans hup3).trans hup4
     clear ho4 HM p0 q0;go_wp2;go_roundw
     case rel=>exact⟨k+1,metL O (setL (l.map Fm.p) d.ws),by omega,by go_num,by rw[HST.out,← HO.out,stpD,HWS.out],by omega,ho,hupx⟩
     case measure=>simp[intOf];omega
    ·obtain rfl:k=I.length:=by omega
     have hfin:O=pdL P (l.map Fm.p):=by rw[HFD.out,HO.out,List.take_of_length_le (Nat.le_refl _)]
     subst hfin;go_wp2;go_ret2;exact⟨_,ret_vk HFF.out.1.symm,by rw[HFF.out.2];exact hown,hupw⟩
def NmS(l:List Sp):Prop:=l.Pairwise (fun a b=>a.2+2≤b.1)∧∀s∈l,0≤s.1∧s.1≤s.2∧s.2≤730499
def DyS(l:List Sp):Prop:=∀s∈l,0≤s.1∧s.1≤s.2∧s.2≤730499
theorem stpS_nm{o:List Sp}{s:Sp}(h:NmS o)(hs:0≤s.1∧s.1≤s.2∧s.2≤730499):NmS (stpS o s):=by
 rcases List.eq_nil_or_concat o with rfl|⟨o,z,rfl⟩<;>try rw[List.concat_eq_append]at *
 ·rw[stpS_nil]
  exact⟨by simp,fun x hx=>by rw[List.mem_singleton.1 hx];exact hs⟩
 ·obtain⟨hp,hd⟩:=h
  obtain⟨p1,p2,p3⟩:=List.pairwise_append.1 hp
  have hz:=hd z (by simp)
  rw[stpS_snoc];split
  ·refine⟨List.pairwise_append.2 ⟨p1,by simp,fun a ha b hb=>?_⟩,fun x hx=>?_⟩
   ·rw[List.mem_singleton.1 hb];exact p3 a ha z (by simp)
   ·rcases List.mem_append.1 hx with hx|hx
    ·exact hd x (by simp[hx])
    ·rw[List.mem_singleton.1 hx];simp only[];omega
  ·refine⟨List.pairwise_append.2 ⟨hp,by simp,fun a ha b hb=>?_⟩,fun x hx=>?_⟩
   ·rw[List.mem_singleton.1 hb]
    rcases List.mem_append.1 ha with ha|ha
    ·have:=p3 a ha z (by simp);omega
    ·rw[List.mem_singleton.1 ha];omega
   ·rcases List.mem_append.1 hx with hx|hx
    ·exact hd x hx
    ·rw[List.mem_singleton.1 hx];exact hs
theorem foldS_nm:∀(l o:List Sp),NmS o→DyS l→NmS (l.foldl stpS o)
 | [],_,h,_=>h
 | x :: l,o,h,hd=>foldS_nm l (stpS o x) (stpS_nm h (hd x (by simp))) (fun s hs=>hd s (by simp[hs]))
theorem unL_nm{l:List Sp}(h:DyS l):NmS (unL l):=foldS_nm _ _ ⟨by simp,by simp⟩ (fun s hs=>h s ((srtS_perm l).mem_iff.1 hs))
theorem metL_mem:∀(k:Nat) (a b:List Sp),a.length+b.length≤k→∀s∈metL a b,∃x∈a,∃y∈b,s=(max x.1 y.1,min x.2 y.2)∧s.1≤s.2
 | k,[],b,_,s,hs=>by rw[metL_nil_l]at hs;cases hs
 | k,x :: p,[],_,s,hs=>by rw[metL_nil_r]at hs;cases hs
 | 0,x :: p,y :: q,h,s,hs=>by simp at h
 | k+1,x :: p,y :: q,h,s,hs=>by
   rw[metL_cons]at hs;rcases List.mem_append.1 hs with hs|hs
   ·split at hs
    ·rw[List.mem_singleton.1 hs]
     exact⟨x,by simp,y,by simp,rfl,by assumption⟩
    ·cases hs
   ·simp only[List.length_cons]at h
    split at hs
    ·obtain⟨x',hx,y',hy,h1⟩:=metL_mem k p (y :: q) (by simp only[List.length_cons];omega) s hs
     exact⟨x',by simp[hx],y',hy,h1⟩
    ·obtain⟨x',hx,y',hy,h1⟩:=metL_mem k (x :: p) q (by simp only[List.length_cons];omega) s hs
     exact⟨x',hx,y',by simp[hy],h1⟩
theorem nm_tail{x:Sp}{p:List Sp}(h:NmS (x :: p)):NmS p:=⟨(List.pairwise_cons.1 h.1).2,fun s hs=>h.2 s (by simp[hs])⟩
theorem nm_head{x:Sp}{p:List Sp}(h:NmS (x :: p)):∀y∈p,x.2+2≤y.1:=(List.pairwise_cons.1 h.1).1
theorem nm_first{x:Sp}{p:List Sp}(h:NmS (x :: p)):∀y∈x :: p,x.1≤y.1:=fun y hy=>by
 rcases List.mem_cons.1 hy with rfl|hy
 ·exact Int.le_refl _
 ·have h1:=nm_head h y hy
  have h2:=h.2 x (by simp)
  omega
theorem metL_nm:∀(k:Nat) (a b:List Sp),a.length+b.length≤k→NmS a→NmS b→NmS (metL a b)
 | k,[],b,_,_,_=>by rw[metL_nil_l];exact⟨by simp,by simp⟩
 | k,x :: p,[],_,_,_=>by rw[metL_nil_r];exact⟨by simp,by simp⟩
 | 0,x :: p,y :: q,h,_,_=>by simp at h
 | k+1,x :: p,y :: q,h,ha,hb=>by
   simp only[List.length_cons]at h
   have hx:=ha.2 x (by simp)
   have hy:=hb.2 y (by simp)
   rw[metL_cons];have hhead:∀s∈(if max x.1 y.1≤min x.2 y.2 then [(max x.1 y.1,min x.2 y.2)] else []:List Sp),s=(max x.1 y.1,min x.2 y.2)∧max x.1 y.1≤min x.2 y.2:=fun s hs=>by
    split at hs
    ·exact⟨List.mem_singleton.1 hs,by assumption⟩
    ·cases hs
   have hpw:List.Pairwise (fun a b:Sp=>a.2+2≤b.1) (if max x.1 y.1≤min x.2 y.2 then [(max x.1 y.1,min x.2 y.2)] else []):=by split<;>simp
   by_cases hxy:x.2<y.2
   ·rw[if_pos hxy]
    have ih:=metL_nm k p (y :: q) (by simp only[List.length_cons];omega) (nm_tail ha) hb
    refine⟨List.pairwise_append.2 ⟨hpw,ih.1,fun s hs t ht=>?_⟩,fun s hs=>?_⟩
    ·obtain⟨rfl,h1⟩:=hhead s hs
     obtain⟨x',hx',y',hy',rfl,-⟩:=metL_mem _ p (y :: q) (Nat.le_refl _) t ht
     have:=nm_head ha x' hx'
     simp only[];omega
    ·rcases List.mem_append.1 hs with hs|hs
     ·obtain⟨rfl,h1⟩:=hhead s hs
      simp only[];omega
     ·exact ih.2 s hs
   ·rw[if_neg hxy]
    have ih:=metL_nm k (x :: p) q (by simp only[List.length_cons];omega) ha (nm_tail hb)
    refine⟨List.pairwise_append.2 ⟨hpw,ih.1,fun s hs t ht=>?_⟩,fun s hs=>?_⟩
    ·obtain⟨rfl,h1⟩:=hhead s hs
     obtain⟨x',hx',y',hy',rfl,-⟩:=metL_mem _ (x :: p) q (Nat.le_refl _) t ht
     have:=nm_head hb y' hy'
     simp only[];omega
    ·rcases List.mem_append.1 hs with hs|hs
     ·obtain⟨rfl,h1⟩:=hhead s hs
      simp only[];omega
     ·exact ih.2 s hs
theorem hasL_iff{l:List Sp}{n:Int}:hasL l n=true ↔ ∃s∈l,s.1≤n∧n≤s.2:=by
 unfold hasL
 rw[List.any_eq_true];constructor
 ·rintro⟨s,hs,h⟩
  rw[Bool.and_eq_true,decide_eq_true_eq,decide_eq_true_eq]at h;exact⟨s,hs,h⟩
 ·rintro⟨s,hs,h⟩
  exact⟨s,hs,by rw[Bool.and_eq_true,decide_eq_true_eq,decide_eq_true_eq];exact h⟩
theorem metL_has1{a b:List Sp}{n:Int}(h:hasL (metL a b) n=true):hasL a n=true∧hasL b n=true:=by
 obtain⟨s,hs,h1,h2⟩:=hasL_iff.1 h
 obtain⟨x,hx,y,hy,rfl,-⟩:=metL_mem _ a b (Nat.le_refl _) s hs
 simp only[]at h1 h2
 exact⟨hasL_iff.2 ⟨x,hx,by omega,by omega⟩,hasL_iff.2 ⟨y,hy,by omega,by omega⟩⟩
theorem metL_has2{n:Int}:∀(k:Nat) (a b:List Sp),a.length+b.length≤k→NmS a→NmS b→hasL a n=true→hasL b n=true→hasL (metL a b) n=true
 | k,[],b,_,_,_,h,_=>by simp[hasL]at h
 | k,x :: p,[],_,_,_,_,h=>by simp[hasL]at h
 | 0,x :: p,y :: q,h,_,_,_,_=>by simp at h
 | k+1,x :: p,y :: q,h,ha,hb,h1,h2=>by
   simp only[List.length_cons]at h
   obtain⟨s,hs,s1,s2⟩:=hasL_iff.1 h1
   obtain⟨t,ht,t1,t2⟩:=hasL_iff.1 h2
   rw[metL_cons];have hx:=ha.2 x (by simp)
   have hy:=hb.2 y (by simp)
   rcases List.mem_cons.1 hs with rfl|hs
   ·rcases List.mem_cons.1 ht with rfl|ht
    ·refine hasL_iff.2 ⟨(max s.1 t.1,min s.2 t.2),List.mem_append_left _ ?_,by simp only[];omega,by simp only[];omega⟩
     rw[if_pos (by omega)];simp
    ·have h3:=nm_head hb t ht
     rw[if_neg (show ¬ s.2<y.2 by omega)]
     have ih:=metL_has2 k (s :: p) q (by simp only[List.length_cons];omega) ha (nm_tail hb) (hasL_iff.2 ⟨s,by simp,s1,s2⟩) (hasL_iff.2 ⟨t,ht,t1,t2⟩)
     obtain⟨r,hr,r1⟩:=hasL_iff.1 ih
     exact hasL_iff.2 ⟨r,List.mem_append_right _ hr,r1⟩
   ·have h3:=nm_head ha s hs
    by_cases hxy:x.2<y.2
    ·rw[if_pos hxy]
     have ih:=metL_has2 k p (y :: q) (by simp only[List.length_cons];omega) (nm_tail ha) hb (hasL_iff.2 ⟨s,hs,s1,s2⟩) (hasL_iff.2 ⟨t,ht,t1,t2⟩)
     obtain⟨r,hr,r1⟩:=hasL_iff.1 ih
     exact hasL_iff.2 ⟨r,List.mem_append_right _ hr,r1⟩
    ·rw[if_neg hxy]
     have htq:t∈q:=by
      rcases List.mem_cons.1 ht with rfl|ht
      ·omega
      ·exact ht
     have ih:=metL_has2 k (x :: p) q (by simp only[List.length_cons];omega) ha (nm_tail hb) (hasL_iff.2 ⟨s,by simp[hs],s1,s2⟩) (hasL_iff.2 ⟨t,htq,t1,t2⟩)
     obtain⟨r,hr,r1⟩:=hasL_iff.1 ih
     exact hasL_iff.2 ⟨r,List.mem_append_right _ hr,r1⟩
theorem metL_has{a b:List Sp}{n:Int}(ha:NmS a)(hb:NmS b):hasL (metL a b) n=(hasL a n && hasL b n):=by
 rcases h:hasL (metL a b) n with _|_
 ·rcases h1:hasL a n with _|_
  ·rfl
  ·rcases h2:hasL b n with _|_
   ·rfl
   ·rw[metL_has2 _ a b (Nat.le_refl _) ha hb h1 h2]at h;cases h
 ·obtain⟨h1,h2⟩:=metL_has1 h
  rw[h1,h2];rfl
end Go.Proofs.YtaoplcclemckjaaGreatDoor
namespace Go.Proofs.YtaoplcclemckjaaGreatDoor
def inD(n:Int):Bool:=decide (0≤n) && decide (n≤730499)
theorem inD_iff{n:Int}:inD n=true ↔ 0≤n∧n≤730499:=by simp[inD]
theorem hasL_cons(x:Sp)(p:List Sp)(n:Int):hasL (x :: p) n=((decide (x.1≤n) && decide (n≤x.2)) || hasL p n):=rfl
theorem hasL_app(p q:List Sp)(n:Int):hasL (p++q) n=(hasL p n || hasL q n):=by simp[hasL]
theorem nm_lo{x:Sp}{p:List Sp}(h:NmS (x :: p)){n:Int}(hn:n≤x.2+1):hasL p n=false:=by
 rcases hh:hasL p n with _|_
 ·rfl
 ·obtain⟨s,hs,h1,h2⟩:=hasL_iff.1 hh
  have:=nm_head h s hs
  omega
theorem nm_ext:∀(a b:List Sp),NmS a→NmS b→(∀n,hasL a n=hasL b n)→a=b
 | [],[],_,_,_=>rfl
 | [],y :: q,_,hb,h=>by
   have hy:=hb.2 y (by simp)
   have h1:hasL ([]:List Sp) y.1=true:=by rw[h];exact hasL_iff.2 ⟨y,by simp,Int.le_refl _,hy.2.1⟩
   simp[hasL]at h1
 | x :: p,[],ha,_,h=>by
   have hx:=ha.2 x (by simp)
   have h1:hasL ([]:List Sp) x.1=true:=by rw[← h];exact hasL_iff.2 ⟨x,by simp,Int.le_refl _,hx.2.1⟩
   simp[hasL]at h1
 | x :: p,y :: q,ha,hb,h=>by
   have hx:=ha.2 x (by simp)
   have hy:=hb.2 y (by simp)
   have e1:x.1=y.1:=by
    have h1:hasL (y :: q) x.1=true:=by rw[← h];exact hasL_iff.2 ⟨x,by simp,Int.le_refl _,hx.2.1⟩
    have h2:hasL (x :: p) y.1=true:=by rw[h];exact hasL_iff.2 ⟨y,by simp,Int.le_refl _,hy.2.1⟩
    obtain⟨s,hs,s1,s2⟩:=hasL_iff.1 h1
    obtain⟨t,ht,t1,t2⟩:=hasL_iff.1 h2
    have:=nm_first hb s hs
    have:=nm_first ha t ht
    omega
   have e2:x.2=y.2:=by
    have h1:=h (x.2+1)
    have h2:=h (y.2+1)
    rw[hasL_cons,hasL_cons,nm_lo ha (by omega)]at h1
    rw[hasL_cons,hasL_cons,nm_lo hb (by omega)]at h2
    rcases Int.lt_trichotomy x.2 y.2 with h3|h3|h3
    ·rw[decide_eq_true (show y.1≤x.2+1 by omega),decide_eq_true (show x.2+1≤y.2 by omega),decide_eq_false (show ¬ x.2+1≤x.2 by omega)]at h1
     simp at h1
    ·exact h3
    ·rw[decide_eq_true (show x.1≤y.2+1 by omega),decide_eq_true (show y.2+1≤x.2 by omega),decide_eq_false (show ¬ y.2+1≤y.2 by omega)]at h2
     simp at h2
   obtain rfl:x=y:=Prod.ext e1 e2
   rw[nm_ext p q (nm_tail ha) (nm_tail hb) fun n=>?_]
   rcases Int.lt_or_le x.2 n with h1|h1
   ·have h2:=h n
    rw[hasL_cons,hasL_cons,decide_eq_false (show ¬ n≤x.2 by omega)]at h2
    simpa using h2
   ·rw[nm_lo ha (by omega),nm_lo hb (by omega)]
def dstp(o:List Sp)(n:Int):List Sp :=
 match o.getLast? with
 | some z=>if z.2=n-1 then o.dropLast++[(z.1,n)] else o++[(n,n)]
 | none=>o++[(n,n)]
theorem dstp_nil(n:Int):dstp [] n=[(n,n)]:=rfl
theorem dstp_snoc(o:List Sp)(z:Sp)(n:Int):dstp (o++[z]) n=if z.2=n-1 then o++[(z.1,n)] else o++[z]++[(n,n)]:=by
 unfold dstp
 rw[List.getLast?_append,List.getLast?_singleton];simp
def daysF(p:Int→Bool)(a:Int):Nat→List Sp
 | 0=>[]
 | k+1=>if p (a+k)=true then dstp (daysF p a k) (a+k) else daysF p a k
theorem daysF_s(p:Int→Bool)(a:Int)(k:Nat):daysF p a (k+1)=if p (a+k)=true then dstp (daysF p a k) (a+k) else daysF p a k:=rfl
theorem dstp_has{o:List Sp}{m n:Int}(ho:∀s∈o,s.1≤s.2∧s.2<m):hasL (dstp o m) n=(hasL o n || decide (n=m)):=by
 rcases List.eq_nil_or_concat o with rfl|⟨o,z,rfl⟩<;>try rw[List.concat_eq_append]at *
 ·rw[dstp_nil,hasL_cons]
  simp only[hasL,List.any_nil,Bool.or_false,Bool.false_or]
  rw[Bool.eq_iff_iff];simp;omega
 ·have hz:=ho z (by simp)
  rw[dstp_snoc];split
  ·rw[hasL_app,hasL_app,hasL_cons,hasL_cons,Bool.or_assoc]
   congr 1
   simp only[hasL,List.any_nil,Bool.or_false]
   rw[Bool.eq_iff_iff];simp;omega
  ·rw[hasL_app,hasL_cons]
   congr 1
   simp only[hasL,List.any_nil,Bool.or_false]
   rw[Bool.eq_iff_iff];simp;omega
theorem dstp_nm{o:List Sp}{m:Int}(h:NmS o)(ho:∀s∈o,s.2<m)(h0:0≤m)(h1:m≤730499):NmS (dstp o m)∧∀s∈dstp o m,s.2<m+1:=by
 rcases List.eq_nil_or_concat o with rfl|⟨o,z,rfl⟩<;>try rw[List.concat_eq_append]at *
 ·rw[dstp_nil]
  exact⟨⟨by simp,fun x hx=>by rw[List.mem_singleton.1 hx];exact⟨h0,Int.le_refl _,h1⟩⟩,fun x hx=>by rw[List.mem_singleton.1 hx];simp only[];omega⟩
 ·obtain⟨hp,hd⟩:=h
  obtain⟨p1,p2,p3⟩:=List.pairwise_append.1 hp
  have hz:=hd z (by simp)
  have hzm:=ho z (by simp)
  rw[dstp_snoc];split
  ·refine⟨⟨List.pairwise_append.2 ⟨p1,by simp,fun a ha b hb=>?_⟩,fun x hx=>?_⟩,fun x hx=>?_⟩
   ·rw[List.mem_singleton.1 hb];exact p3 a ha z (by simp)
   ·rcases List.mem_append.1 hx with hx|hx
    ·exact hd x (by simp[hx])
    ·rw[List.mem_singleton.1 hx];simp only[];omega
   ·rcases List.mem_append.1 hx with hx|hx
    ·have:=ho x (by simp[hx]);omega
    ·rw[List.mem_singleton.1 hx];simp only[];omega
  ·refine⟨⟨List.pairwise_append.2 ⟨hp,by simp,fun a ha b hb=>?_⟩,fun x hx=>?_⟩,fun x hx=>?_⟩
   ·rw[List.mem_singleton.1 hb]
    have h2:=hd a ha
    rcases List.mem_append.1 ha with ha|ha
    ·have:=p3 a ha z (by simp);simp only[];omega
    ·rw[List.mem_singleton.1 ha];simp only[];omega
   ·rcases List.mem_append.1 hx with hx|hx
    ·exact hd x hx
    ·rw[List.mem_singleton.1 hx];exact⟨h0,Int.le_refl _,h1⟩
   ·rcases List.mem_append.1 hx with hx|hx
    ·have:=ho x hx;omega
    ·rw[List.mem_singleton.1 hx];simp only[];omega
theorem daysF_nm(p:Int→Bool){a:Int}(h0:0≤a):∀(k:Nat),a+k≤730500→NmS (daysF p a k)∧(∀s∈daysF p a k,s.2<a+k)∧∀n,hasL (daysF p a k) n=(decide (a≤n) && decide (n<a+k) && p n)
 | 0,_=>⟨⟨by simp[daysF],by simp[daysF]⟩,by simp[daysF],fun n=>by
  rw[show daysF p a 0=[] from rfl,show hasL [] n=false from rfl]
  rcases Int.lt_or_le n a with h|h
  ·simp;omega
  ·simp;omega⟩
 | k+1,hk=>by
   obtain⟨i1,i2,i3⟩:=daysF_nm p h0 k (by omega)
   rw[daysF_s];by_cases hp:p (a+k)=true
   ·rw[if_pos hp]
    obtain⟨j1,j2⟩:=dstp_nm i1 i2 (by omega) (show a+(k:Int)≤730499 by omega)
    refine⟨j1,fun s hs=>by have:=j2 s hs;omega,fun n=>?_⟩
    rw[dstp_has (fun s hs=>⟨(i1.2 s hs).2.1,i2 s hs⟩),i3]
    by_cases hn:n=a+k
    ·subst hn;rw[hp];simp;omega
    ·rw[decide_eq_false hn,Bool.or_false];congr 2;rw[Bool.eq_iff_iff];simp;omega
   ·rw[if_neg hp]
    refine⟨i1,fun s hs=>by have:=i2 s hs;omega,fun n=>?_⟩
    rw[i3];by_cases hn:n=a+k
    ·subst hn;rw[show p (a+(k:Int))=false by simpa using hp];simp
    ·congr 2;rw[Bool.eq_iff_iff];simp;omega
noncomputable def dset (p:Int→Bool):List Sp:=Classical.epsilon fun l=>NmS l∧∀n,hasL l n=(inD n && p n)
theorem dset_sp(p:Int→Bool):NmS (dset p)∧∀n,hasL (dset p) n=(inD n && p n):=by
 refine Classical.epsilon_spec (p:=fun l=>NmS l∧∀n,hasL l n=(inD n && p n)) ⟨daysF p 0 730500,?_⟩
 obtain⟨h1,-,h2⟩:=daysF_nm p (a:=0) (Int.le_refl _) 730500 (by omega)
 refine⟨h1,fun n=>?_⟩
 rw[h2,inD];congr 2;rw[Bool.eq_iff_iff];simp;omega
theorem dset_nm(p:Int→Bool):NmS (dset p):=(dset_sp p).1
theorem dset_has(p:Int→Bool)(n:Int):hasL (dset p) n=(inD n && p n):=(dset_sp p).2 n
theorem dset_eq{l:List Sp}{p:Int→Bool}(h:NmS l)(h2:∀n,hasL l n=(inD n && p n)):l=dset p :=
 nm_ext _ _ h (dset_nm p) fun n=>by rw[h2,dset_has]
theorem dset_eq'{l:List Sp}{p:Int→Bool}(h:NmS l)(h2:∀n,0≤n→n≤730499→hasL l n=p n):l=dset p :=
 dset_eq h fun n=>by
  rcases hn:inD n with _|_
  ·rw[Bool.false_and]
   rcases hh:hasL l n with _|_
   ·rfl
   ·obtain⟨s,hs,s1,s2⟩:=hasL_iff.1 hh
    have:=h.2 s hs
    rw[inD_iff.2 ⟨by omega,by omega⟩]at hn;cases hn
  ·rw[Bool.true_and];exact h2 n (inD_iff.1 hn).1 (inD_iff.1 hn).2
theorem dset_congr{p q:Int→Bool}(h:∀n,0≤n→n≤730499→p n=q n):dset p=dset q :=
 dset_eq' (dset_nm p) fun n h0 h1=>by rw[dset_has,inD_iff.2 ⟨h0,h1⟩,Bool.true_and];exact h n h0 h1
theorem dset_win(p:Int→Bool){a:Int}{k:Nat}(h0:0≤a)(hk:a+k≤730500):daysF p a k=dset fun n=>(decide (a≤n) && decide (n<a+k)) && p n :=
 dset_eq' (daysF_nm p h0 k hk).1 fun n _ _=>(daysF_nm p h0 k hk).2.2 n
theorem metL_dset(p q:Int→Bool):metL (dset p) (dset q)=dset fun n=>p n && q n :=
 dset_eq (metL_nm _ _ _ (Nat.le_refl _) (dset_nm p) (dset_nm q)) fun n=>by
  rw[metL_has (dset_nm p) (dset_nm q),dset_has,dset_has];cases inD n<;>simp
theorem dset_one{a b:Int}(h0:0≤a)(h1:a≤b)(h2:b≤730499):[(a,b)]=dset fun n=>decide (a≤n) && decide (n≤b) :=
 dset_eq' ⟨by simp,fun s hs=>by rw[List.mem_singleton.1 hs];exact⟨h0,h1,h2⟩⟩ fun n _ _=>by simp[hasL]
theorem dset_all:[((0:Int),(730499:Int))]=dset fun _=>true :=
 dset_eq' ⟨by simp,fun s hs=>by rw[List.mem_singleton.1 hs];simp only[];omega⟩ fun n h0 h1=>by simp[hasL];omega
theorem stpS_has'{o:List Sp}{s:Sp}{n:Int}(_hs:s.1≤s.2)(ho:∀x∈o,x.1≤s.1∧x.1≤x.2):hasL (stpS o s) n=(hasL o n ||(decide (s.1≤n) && decide (n≤s.2))):=by
 rcases List.eq_nil_or_concat o with rfl|⟨o,z,rfl⟩<;>try rw[List.concat_eq_append]at *
 ·rw[stpS_nil,hasL_cons];simp[hasL]
 ·have hz:=ho z (by simp)
  rw[stpS_snoc];split
  ·rw[hasL_app,hasL_app,hasL_cons,hasL_cons,Bool.or_assoc]
   congr 1
   simp only[hasL,List.any_nil,Bool.or_false]
   rw[Bool.eq_iff_iff];simp;omega
  ·rw[hasL_app,hasL_cons]
   congr 1
   simp[hasL]
theorem stpS_fst{o:List Sp}{s y:Sp}(ho:∀x∈o,x.1≤y.1∧x.1≤x.2)(hs:s.1≤y.1)(hs2:s.1≤s.2):∀x∈stpS o s,x.1≤y.1∧x.1≤x.2:=by
 rcases List.eq_nil_or_concat o with rfl|⟨o,z,rfl⟩<;>try rw[List.concat_eq_append]at *
 ·rw[stpS_nil]
  intro x hx;rw[List.mem_singleton.1 hx];exact⟨hs,hs2⟩
 ·rw[stpS_snoc]
  have hz:=ho z (by simp)
  split
  ·intro x hx
   rcases List.mem_append.1 hx with hx|hx
   ·exact ho x (by simp[hx])
   ·rw[List.mem_singleton.1 hx];simp only[];omega
  ·intro x hx
   rcases List.mem_append.1 hx with hx|hx
   ·exact ho x hx
   ·rw[List.mem_singleton.1 hx];exact⟨hs,hs2⟩
theorem foldS_has'{n:Int}:∀(l o:List Sp),SrtS l→OkS l→(∀x∈o,x.1≤x.2)→(∀x∈o,∀y∈l,x.1≤y.1)→hasL (l.foldl stpS o) n=(hasL o n || hasL l n)
 | [],o,_,_,_,_=>by simp[hasL]
 | s :: l,o,hs,ho,h1,h2=>by
   have hp:=List.pairwise_cons.1 hs
   have hss:=ho s (by simp)
   rw[List.foldl_cons,foldS_has' l (stpS o s) hp.2 (fun x hx=>ho x (by simp[hx]))
    (fun x hx=>(stpS_fst (y:=s) (fun x hx=>⟨h2 x hx s (by simp),h1 x hx⟩) (Int.le_refl _) hss x hx).2)
    (fun x hx y hy=>(stpS_fst (y:=y) (fun x hx=>⟨h2 x hx y (by simp[hy]),h1 x hx⟩) (hp.1 y hy) hss x hx).1),
    stpS_has' hss (fun x hx=>⟨h2 x hx s (by simp),h1 x hx⟩),hasL_cons,Bool.or_assoc]
theorem unL_has'{l:List Sp}(ho:OkS l)(n:Int):hasL (unL l) n=hasL l n:=by
 unfold unL
 rw[foldS_has' _ _ (srtS_sorted l) (fun s hs=>ho s ((srtS_perm l).mem_iff.1 hs)) (by simp) (by simp)]
 rw[show hasL [] n=false from rfl,Bool.false_or,Bool.eq_iff_iff,hasL_iff,hasL_iff]
 exact⟨fun⟨s,hs,h⟩=>⟨s,(srtS_perm l).mem_iff.1 hs,h⟩,fun⟨s,hs,h⟩=>⟨s,(srtS_perm l).mem_iff.2 hs,h⟩⟩
theorem unL_dset{l:List Sp}(h:DyS l):unL l=dset (hasL l) :=
 dset_eq' (unL_nm h) fun n _ _=>unL_has' (fun s hs=>(h s hs).2.1) n
theorem nm_win{l:List Sp}(h:NmS l):∀{a b:Int},(∀s∈l,a≤s.1∧s.2≤b)→a≤b+2→2*(l.length:Int)≤b-a+2:=by
 induction l with
 | nil=>intro a b _ h1;simp;omega
 | cons x p ih =>
   intro a b hs _
   have hx:=hs x (by simp)
   have hxx:=h.2 x (by simp)
   have:=ih (nm_tail h) (a:=x.2+2) (b:=b) (fun s hs'=>⟨nm_head h s hs',(hs s (by simp[hs'])).2⟩) (by omega)
   simp only[List.length_cons];push_cast;omega
theorem dset_len{p:Int→Bool}{a b:Int}(h:∀n,0≤n→n≤730499→p n=true→a≤n∧n≤b)(hab:a≤b+2):2*((dset p).length:Int)≤b-a+2:=by
 refine nm_win (dset_nm p) (fun s hs=>?_) hab
 have hd:=(dset_nm p).2 s hs
 have h1:=dset_has p s.1
 have h2:=dset_has p s.2
 rw[hasL_iff.2 ⟨s,hs,Int.le_refl _,hd.2.1⟩,inD_iff.2 ⟨hd.1,by omega⟩,Bool.true_and]at h1
 rw[hasL_iff.2 ⟨s,hs,hd.2.1,Int.le_refl _⟩,inD_iff.2 ⟨by omega,hd.2.2⟩,Bool.true_and]at h2
 exact⟨(h s.1 hd.1 (by omega) h1.symm).1,(h s.2 (by omega) hd.2.2 h2.symm).2⟩
end Go.Proofs.YtaoplcclemckjaaGreatDoor
