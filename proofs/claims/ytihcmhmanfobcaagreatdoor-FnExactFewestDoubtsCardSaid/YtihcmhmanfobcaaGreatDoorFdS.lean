/- Whether a number stands in a list: the reference's. -/
import Derived.Test.YtihcmhmanfobcaaGreatDoorVc
import Derived.Test.YtihcmhmanfobcaaGreatDoorFdJ
import Derived.Deep.RegionHeld3
import Derived.Deep.AppendLies
import Derived.Deep.RegionLaw
import Derived.Deep.RegionHeldLaw
set_option maxHeartbeats 16000000
set_option maxRecDepth 100000
namespace Go.Proofs.YtihcmhmanfobcaaGreatDoor
open Go.RowKit Go.Sort
theorem beq_sw(x z:Int):(x==z)=(z==x):=by rw[Bool.eq_iff_iff,beq_iff_eq,beq_iff_eq];exact eq_comm
theorem has_no{l:List Int}{z:Int}(h:∀j x,j<l.length→l[j]?=some x→(x==z)=false):l.contains z=false:=by
 rw[List.contains_eq_any_beq,List.any_eq_false];intro x hx
 obtain⟨j,hj,e⟩:=List.getElem_of_mem hx
 have:=h j x hj (by rw[List.getElem?_eq_getElem hj,e])
 rw[← beq_sw];simp[this]
theorem has_yes{l:List Int}{z x:Int}{j:Nat}(hx:l[j]?=some x)(h:(x==z)=true):l.contains z=true:=by
 rw[List.contains_eq_any_beq,List.any_eq_true];exact⟨x,List.mem_of_getElem? hx,by rw[← beq_sw];exact h⟩
def hasB(l:List Int)(z:Int):Bool:=l.contains z
theorem l01Has_any(A:Option Addr)(l:List Int)(c lo hi:Nat)(z:Int)(w:World)(hr:RdI w lo hi A l)(hn:l.length≤2000000) :
 Calls Tryz.prog 20 #[.slice A l.length c,.int .i64 z] w fun e w'=>e=.returned (.bool (hasB l z))∧w=w':=by
 go_enter Tryz.func20,Tryz.ntmps20
 go_wp2;go_loop [5] (fun i=>∃k:Nat,k≤l.length∧i=.int .i64 k∧(∀j x,j<k→l[j]?=some x→(x==z)=false)) (fun i=>l.length-(intOf i).toNat)
 case atStart=>exact⟨0,Nat.zero_le _,rfl,fun j x h=>absurd h (by omega)⟩
 case round =>
  obtain⟨k,hk,rfl,ha⟩:=hrel
  have HA:=qh ha
  clear ha;by_cases hlt:k<l.length
  ·obtain⟨b,off,d,rfl,-,-,hd,q0⟩:=hr.int hlt
   have HD:=qh hd
   clear hd;rcases hp:d==z with _|_
   ·have HP:=qh hp
    go_wp2;go_round
    case rel=>exact⟨k+1,by omega,by go_num,fun j x hj hx=>by
     rcases Nat.lt_or_ge j k with h|h
     ·exact HA.out j x h hx
     ·obtain rfl:j=k:=by omega
      rw[HD.out]at hx;cases hx;exact HP.out⟩
    case measure=>simp[intOf];omega
   ·have HP:=qh (show hasB l z=true from has_yes HD.out hp)
    go_wp2;go_ret;exact⟨ret_bool HP.out.symm,rfl⟩
  ·have HN:=qh (show hasB l z=false from has_no (l:=l) (z:=z) (fun j x hj hx=>HA.out j x (by omega) hx))
   go_wp2;go_ret;exact⟨ret_bool HN.out.symm,rfl⟩
theorem mbs_end{s k:Nat}(hs:s<32)(hk:k≤5)(h:s/2 ^ k=0):mbK s k=mbs s:=by
 have:∀(s:Fin 32) (k:Fin 6),s.1/2 ^ k.1=0→mbK s.1 k.1=mbs s.1:=by decide
 exact this ⟨s,hs⟩ ⟨k,by omega⟩ h
theorem mbs_lt{s k:Nat}(hs:s<32)(hk:k≤5)(h:0<s/2 ^ k):k<5:=by
 rcases Nat.lt_or_ge k 5 with h5|h5
 ·exact h5
 ·obtain rfl:k=5:=by omega
  omega
theorem bit_mod(s k:Nat):s.testBit k=decide (s/2 ^ k % 2=1):=Nat.testBit_eq_decide_div_mod_eq
theorem l12Members_any(s:Nat)(w:World)(hs:s<32) :
 Calls Tryz.prog 19 #[.int .i64 (s:Int)] w fun e w'=>∃v,e=.returned v∧w'.ownsRow w.heap.size 2 1 v (mbs s).length ((mbs s).flatMap intCells)∧Up w w':=by
 obtain⟨i0,hi0,hz0,hz1,hz2⟩:=info_parts infoIntP
 go_enter Tryz.func19,Tryz.ntmps19
 go_wp2_with fail
 have hown0:=World.ownsRow_lit (base:=w.heap.size) (e:=2) (size:=1) w #[] 0 (Nat.le_refl _) (by simp[maxLen]) rfl
 have hup0:=(Up.refl w).allocs (.cells #[] 2)
 obtain⟨v0,hv0⟩:∃v,v=Value.slice (some ⟨w.heap.size,0,none⟩) 0 0:=⟨_,rfl⟩
 rw[← hv0]at hown0 ⊢
 generalize w.alloc (.cells #[] 2)=w2 at *
 clear hv0;go_loopw [3,4] (fun o i wr=>∃k:Nat,k≤5∧i=.int .i64 k∧wr.ownsRow w.heap.size 2 1 o (mbK s k).length ((mbK s k).flatMap intCells)∧Up w wr) (fun _ i _=>5-(intOf i).toNat)
 case atStart=>exact⟨0,Nat.zero_le _,rfl,hown0,hup0⟩
 case round =>
  clear hown0 hup0;obtain⟨k,hk,rfl,hown,hup⟩:=hrel
  have hlen:=mbK_len s k
  obtain⟨r,hr⟩:∃r,r=s/2 ^ k:=⟨_,rfl⟩
  have he:(s:Int)/2 ^ k=(r:Int):=by rw[hr];simp
  have hrs:r<32:=by rw[hr];exact Nat.lt_of_le_of_lt (Nat.div_le_self _ _) hs
  have HB:=qh (bit_mod s k)
  rw[← hr]at HB;have HE:=qh (fun h=>mbs_end (k:=k) hs hk (hr.symm.trans h))
  have HL:=qh (fun h=>mbs_lt (k:=k) hs hk (by rw[← hr];exact h))
  clear hr;by_cases hpos:0<r
  ·have hk5:=HL.out hpos
   by_cases hp:r % 2=1
   ·have HS:=qh (mbK_at (s:=s) (k:=k) (h:=by rw[HB.out];exact decide_eq_true hp))
    have HN:=qh (show(mbK s (k+1)).length=(mbK s k).length+1 by rw[mbK_s,if_pos (by rw[HB.out];exact decide_eq_true hp),List.length_append];rfl)
    have hb:(r:Int) % 2=1:=by omega
    have hb2:(r:Int).tmod 2=1:=by rw[Int.tmod_eq_emod_of_nonneg (by omega)];exact hb
    have n1:(mbK s k).length+1≤maxLen:=by unfold maxLen;omega
    have n2:((mbK s k).length+1)*8≤140737488355328:=by omega
    have n3:w.heap.size≤(wr.alloc (.cells #[.int .i64 (k:Int)] 2)).heap.size:=(hup.allocs _).size
    go_wp2_with ((at_builtin;refine wpList_append_own _ rfl _ _ 43 rfl w.heap.size 2 i0 _ 1 8 Tryz.underlying43 hi0 hz0 hz1 hz2 rfl (by decide) _ _ _ rfl (hown.alloc _) ⟨wr.heap.size,0,none⟩ 1 1 [.int .i64 (k:Int)] rfl rfl (cell_one_new _ _ _) (by simp[Value.oneCell']) n1 n2 n3 ?_))
    intro v' w4 hown' hgrow _
    have hu:=(hup.allocs (.cells #[.int .i64 (k:Int)] 2)).grown hgrow (fun k hk=>(hown.lt k hk).1)
    have HO:=qh (show w4.ownsRow w.heap.size 2 1 v' (mbK s (k+1)).length ((mbK s (k+1)).flatMap intCells) by rw[HS.out,HN.out];exact hown')
    clear hown hgrow hown';go_wp2;go_roundw
    case rel=>exact⟨k+1,by omega,by go_num,HO.out,hu⟩
    case measure=>simp[intOf];omega
   ·have HS:=qh (show mbK s (k+1)=mbK s k by rw[mbK_s,if_neg (by rw[HB.out];simpa using hp)])
    have hb:(r:Int) % 2=0:=by omega
    have hb2:(r:Int).tmod 2=0:=by rw[Int.tmod_eq_emod_of_nonneg (by omega)];exact hb
    clear hp;go_wp2;go_roundw
    case rel=>exact⟨k+1,by omega,by go_num,by rw[HS.out];exact hown,hup⟩
    case measure=>simp[intOf];omega
  ·have hz:r=0:=by omega
   have HZ:=qh (HE.out hz)
   go_wp2;go_ret;exact⟨_,rfl,by rw[← HZ.out];exact hown,hup⟩
theorem lxB_drop{l m:List Int}{k:Nat}{x y:Int}(hl:l[k]?=some x)(hm:m[k]?=some y):lxB (l.drop k) (m.drop k)=if x=y then lxB (l.drop (k+1)) (m.drop (k+1)) else decide (x<y):=by
 obtain⟨h1,h2⟩:=List.getElem?_eq_some_iff.1 hl
 obtain⟨h3,h4⟩:=List.getElem?_eq_some_iff.1 hm
 rw[List.drop_eq_getElem_cons h1,List.drop_eq_getElem_cons h3,h2,h4];rfl
theorem l12Better_any(A B:Option Addr)(l m:List Int)(c c' lo hi lo' hi':Nat)(w:World)(hr:RdI w lo hi A l)(hhi:hi≤w.heap.size)(hr':RdI w lo' hi' B m)(hhi':hi'≤w.heap.size)(hn:l.length≤2000000) :
 Calls Tryz.prog 22 #[.slice A l.length c,.slice B m.length c'] w fun e w'=>e=.returned (.bool (btB l m))∧Up w w':=by
 by_cases hne:l.length=m.length
 ·have HL:=qh (show btB l m=lxB l m by unfold btB;rw[if_pos hne])
  have hb0:((l.length:Int) != (m.length:Int))=false:=by simp[hne]
  have hlm:l.length≤m.length:=by omega
  clear hne;go_enter Tryz.func22,Tryz.ntmps22
  go_wp2;go_loopw [5] (fun i wr=>∃k:Nat,k≤l.length∧i=.int .i64 k∧Hid (lxB l m=lxB (l.drop k) (m.drop k))∧Up w wr) (fun i _=>l.length-(intOf i).toNat)
  case atStart=>exact⟨0,Nat.zero_le _,rfl,qh rfl,Up.refl _⟩
  case round =>
   obtain⟨k,hk,rfl,HT,hup⟩:=hrel
   by_cases hlt:k<l.length
   ·have hlt':k<m.length:=by omega
    obtain⟨b1,o1,d1,rfl,-,-,hd1,p0⟩:=(hr.up hup hhi).int hlt
    obtain⟨b2,o2,d2,rfl,-,-,hd2,q0⟩:=(hr'.up hup hhi').int hlt'
    have HD:=qh (lxB_drop hd1 hd2)
    clear hd1 hd2;have P0:=cell_regrown p0
    have Q0:=cell_regrown q0
    go_wp2_with fail
    refine wp_region_quiet_below (by kernel_rfl) (by kernel_rfl) ?_
    repeat (quiet_step (fail))
    refine wpQuiet_nil ?_
    intro w2 hw2
    obtain⟨⟨dq,osq⟩,hw2⟩:=hw2
    have hup2:Up wr w2:=by rw[hw2];exact below_regrown _ _ _
    replace p0:=hup2.cell p0;replace q0:=hup2.cell q0;clear hw2 P0 Q0;have P1:=cell_regrown p0
    have Q1:=cell_regrown q0
    go_wp2_with fail
    ·have hq:(d1 != d2)=true:=by assumption
     refine wp_region_quiet_below (by kernel_rfl) (by kernel_rfl) ?_
     repeat (quiet_step (fail))
     refine wpQuiet_nil ?_
     intro w3 hw3
     obtain⟨⟨dq3,osq3⟩,hw3⟩:=hw3
     have hup3:Up w2 w3:=by rw[hw3];exact below_regrown _ _ _
     clear hw3 P1 Q1;have HF:=qh (show decide (d1<d2)=btB l m by rw[HL.out,HT.out,HD.out,if_neg (by simpa using hq)])
     clear hq;go_wp2;go_ret;exact⟨ret_bool HF.out,(hup.trans hup2).trans hup3⟩
    ·have hq:(d1 != d2)=false:=by assumption
     have HK:=qh (show lxB l m=lxB (l.drop (k+1)) (m.drop (k+1)) by rw[HT.out,HD.out,if_pos (by simpa using hq)])
     clear P1 Q1;go_wp2;go_roundw
     case rel=>exact⟨k+1,by omega,by go_num,HK,hup.trans hup2⟩
     case measure=>simp[intOf];omega
   ·have HF:=qh (show false=btB l m by rw[HL.out,HT.out,List.drop_eq_nil_of_le (by omega)];rfl)
    go_wp2;go_ret;exact⟨ret_bool HF.out,hup⟩
 ·have hb0:((l.length:Int) != (m.length:Int))=true:=by rw[bne_iff_ne];omega
  have H:=qh (show decide (l.length<m.length)=btB l m by unfold btB;rw[if_neg hne])
  clear hne;go_enter Tryz.func22,Tryz.ntmps22
  go_wp2;go_ret;exact⟨ret_bool H.out,Up.refl _⟩
theorem has_mbs{s k:Nat}(hs:s<32)(hk:k<5):hasB (mbs s) (k:Int)=s.testBit k:=by
 have:∀(s:Fin 32) (k:Fin 5),hasB (mbs s.1) (k.1:Int)=s.1.testBit k.1:=by decide
 exact this ⟨s,hs⟩ ⟨k,hk⟩
theorem specFewestDoubts_any(x:Wd)(s:Sl Dd)(g:Sl Fm)(q:Sl (Sl ByteArray))(i:Int)(lo hi:Nat)(w:World)(h:RdW w lo hi x)(h2:RdDd w lo hi s)(h3:SrF w lo hi g)(h4:SrPh w lo hi q) :
 Calls Tryz.prog 5 #[.agg #[.slice x.rs.A x.rs.l.length x.rs.c,.int .i64 x.fr,.int .i64 x.to_,.slice x.ps.A x.ps.l.length x.ps.c,.slice x.ts.A x.ts.l.length x.ts.c,.slice x.pl.A x.pl.l.length x.pl.c,.slice x.ws.A x.ws.l.length x.ws.c,.slice x.st.A x.st.l.length x.st.c,.slice x.se.A x.se.l.length x.se.c,.slice x.ha.A x.ha.l.length x.ha.c,.slice s.A s.l.length s.c,.slice g.A g.l.length g.c,.slice q.A q.l.length q.c],.int .i64 i] w fun e w'=>∃v,e=.returned (.tuple #[v,.int .i64 (fdR x.p (s.l.map Dd.p) g.l q.l i).2])∧w'.ownsRow w.heap.size 2 1 v (fdR x.p (s.l.map Dd.p) g.l q.l i).1.length ((fdR x.p (s.l.map Dd.p) g.l q.l i).1.flatMap intCells)∧Up w w':=by
 have u:=Up.alloc w (.cells #[.slice x.rs.A x.rs.l.length x.rs.c,.int .i64 x.fr,.int .i64 x.to_,.slice x.ps.A x.ps.l.length x.ps.c,.slice x.ts.A x.ts.l.length x.ts.c,.slice x.pl.A x.pl.l.length x.pl.c,.slice x.ws.A x.ws.l.length x.ws.c,.slice x.st.A x.st.l.length x.st.c,.slice x.se.A x.se.l.length x.se.c,.slice x.ha.A x.ha.l.length x.ha.c,.slice s.A s.l.length s.c,.slice g.A g.l.length g.c,.slice q.A q.l.length q.c] 63)
 have hA:=Bx.new w #[.slice x.rs.A x.rs.l.length x.rs.c,.int .i64 x.fr,.int .i64 x.to_,.slice x.ps.A x.ps.l.length x.ps.c,.slice x.ts.A x.ts.l.length x.ts.c,.slice x.pl.A x.pl.l.length x.pl.c,.slice x.ws.A x.ws.l.length x.ws.c,.slice x.st.A x.st.l.length x.st.c,.slice x.se.A x.se.l.length x.se.c,.slice x.ha.A x.ha.l.length x.ha.c,.slice s.A s.l.length s.c,.slice g.A g.l.length g.c,.slice q.A q.l.length q.c] 63
 have CC:=qh (fun(wx:World) (v:Up w wx)=>l25Code_any x s g q i lo hi wx (h.up v) (h2.up v) (h3.up v) (h4.up v))
 by_cases hc:evC x.p (s.l.map Dd.p) g.l q.l i=0
 ·obtain⟨hev,hi0,hi1⟩:=evC_ok hc
  have ef:=EvG.of hev
  rw[List.length_map]at hi1;obtain⟨i,rfl⟩:∃k:Nat,i=k:=⟨i.toNat,by omega⟩
  have hil:i<s.l.length:=by omega
  have hsd:s.l[i]?=some (s.l[i]'hil):=List.getElem?_eq_getElem hil
  obtain⟨d,hde⟩:∃d,d=s.l[i]'hil:=⟨_,rfl⟩
  rw[← hde]at hsd;clear hde;have hre:=h2.each d (List.mem_of_getElem? hsd)
  have hdd:=ef.dd _ (List.mem_map_of_mem (List.mem_of_getElem? hsd))
  have HR:=qh (show fdR x.p (s.l.map Dd.p) g.l q.l (i:Int)=((fwB (fdOk x.p d.p) 32).getD [],0) by
   unfold fdR;rw[if_pos hc,Int.toNat_natCast,List.getElem?_map,hsd];rfl)
  have CS:=qh (fun(k:Nat) (hk:k≤4) (wx:World) (v:Up w wx)=>l17Source_any x d k lo hi lo hi wx (h.up v) (hre.up v) ef.wd hdd hk)
  have HSL:=qh (fun k=>src_len (d:=d.p) (k:=k) ef.wd)
  have HK0:=qh (fun s=>fdK_0 (d:=d.p) (s:=s) ef.wd)
  have HKL:=qh (fun s k=>fdK_len (d:=d.p) (s:=s) (k:=k) ef.wd)
  rw[hc]at CC;obtain⟨b,off,d',hsA,-,-,hd',q0,q1,q2,q3,q4,q5,q6⟩:=(h2.rd.up u h2.hhi).dd hil
  rw[hsd]at hd';cases hd'
  have hs2:s.l.length≤2000000:=h2.len
  rw[HR.out];obtain⟨P,hP⟩:∃P,P=d.p:=⟨_,rfl⟩
  rw[← hP]at CS HSL HK0 HKL ⊢
  have HOK:=qh (show ∀s,fdOk x.p P s=decide (0<(fdK x.p P s 5).length) from fun _=>rfl)
  obtain⟨ok,hok⟩:∃f,f=fdOk x.p P:=⟨_,rfl⟩
  rw[← hok]at HOK ⊢
  have HB:=qh (fwB_mbs ok)
  clear hP hok hsd hev ef hc h h2 h3 h4 HR hi1 hre hdd;obtain⟨SA,sc,sl⟩:=s
  obtain⟨dnm,dda,dwi,dpl,dse,dha,dci⟩:=d
  simp only[]at *;subst hsA;obtain⟨i0,hI0,hz0,hz1,hz2⟩:=info_parts infoSlSp
  go_enter Tryz.func5,Tryz.ntmps5
  go_wp2_with fail
  generalize w.alloc (.cells #[.slice x.rs.A x.rs.l.length x.rs.c,.int .i64 x.fr,.int .i64 x.to_,.slice x.ps.A x.ps.l.length x.ps.c,.slice x.ts.A x.ts.l.length x.ts.c,.slice x.pl.A x.pl.l.length x.pl.c,.slice x.ws.A x.ws.l.length x.ws.c,.slice x.st.A x.st.l.length x.st.c,.slice x.se.A x.se.l.length x.se.c,.slice x.ha.A x.ha.l.length x.ha.c,.slice (some ⟨b,off,none⟩) sl.length sc,.slice g.A g.l.length g.c,.slice q.A q.l.length q.c] 63)=X at *
  refine(CC.out _ u).mono ?_
  rintro e w1 ⟨rfl,v⟩
  replace hA:=hA.up v;replace u:=u.trans v;replace q0:=v.cell q0;replace q1:=v.cell q1;replace q2:=v.cell q2;replace q3:=v.cell q3;replace q4:=v.cell q4;replace q5:=v.cell q5;replace q6:=v.cell q6;clear v CC;go_wp2_with fail
  have hO0:OwA (w1.alloc (.cells #[] 76)) w1.heap.size (rwL (.slice (some ⟨w1.heap.size,0,none⟩) 0 0) [] :: ([]:List (Sl Sp)).map rwSp):=OwA.one (World.ownsRow_lit (base:=w1.heap.size) (e:=76) (size:=1) w1 #[] 0 (Nat.le_refl _) (by simp[maxLen]) rfl)
  have u0:=(Up.refl w1).allocs (.cells #[] 76)
  obtain⟨v0,hv0⟩:∃v,v=Value.slice (some ⟨w1.heap.size,0,none⟩) 0 0:=⟨_,rfl⟩
  rw[← hv0]at hO0 ⊢
  generalize w1.alloc (.cells #[] 76)=W2 at *
  clear hv0;go_loopw [7,8] (fun t7 t8 wr=>∃(k:Nat) (L:List (Sl Sp)),k≤5∧t8=.int .i64 k∧Hid (L.length=k)∧Hid (L.map (·.l)=(List.range k).map (srcS x.p P))∧OwA wr w1.heap.size (rwL t7 L :: L.map rwSp)∧Up w1 wr) (fun _ t8 _=>5-(intOf t8).toNat)
  case atStart=>exact⟨0,[],by omega,rfl,qh rfl,qh rfl,hO0,u0⟩
  case round =>
   clear hO0 u0;obtain⟨k,L,hk,rfl,hLk,hL,ho,hup⟩:=hrel
   obtain⟨Ao,co,rfl,hco,hcm⟩:=rwL_form ho
   by_cases hlt:k≤4
   ·have hl4:decide ((k:Int)≤4)=true:=decide_eq_true (by omega)
    have HL5:Hid (L.length≤5):=qh (by rw[hLk.out];exact hk)
    have C:=qh (CS.out k hlt)
    have n1:L.length+1≤maxLen:=by have:=HL5.out;unfold maxLen;omega
    have n2:(L.length+1)*24≤140737488355328:=by have:=HL5.out;omega
    obtain⟨x0,x1,x2,x3,x4,x5,x6,x7,x8,x9,x10,x11,x12⟩:=hA.c13
    have HO:=qh ho
    have HU:=qh hup
    clear ho hA;go_wp2_with fail
    have KP:∀w':World,Up w1 w'→(Up w1 w'∧w'.cell? ⟨w.heap.size,0,none⟩=some (.slice x.rs.A x.rs.l.length x.rs.c)∧w'.cell? ⟨w.heap.size,1,none⟩=some (.int .i64 x.fr)∧w'.cell? ⟨w.heap.size,2,none⟩=some (.int .i64 x.to_)∧w'.cell? ⟨w.heap.size,3,none⟩=some (.slice x.ps.A x.ps.l.length x.ps.c)∧w'.cell? ⟨w.heap.size,4,none⟩=some (.slice x.ts.A x.ts.l.length x.ts.c)∧w'.cell? ⟨w.heap.size,5,none⟩=some (.slice x.pl.A x.pl.l.length x.pl.c)∧w'.cell? ⟨w.heap.size,6,none⟩=some (.slice x.ws.A x.ws.l.length x.ws.c)∧w'.cell? ⟨w.heap.size,7,none⟩=some (.slice x.st.A x.st.l.length x.st.c)∧w'.cell? ⟨w.heap.size,8,none⟩=some (.slice x.se.A x.se.l.length x.se.c)∧w'.cell? ⟨w.heap.size,9,none⟩=some (.slice x.ha.A x.ha.l.length x.ha.c)∧w'.cell? ⟨w.heap.size,10,none⟩=some (.slice (some ⟨b,off,none⟩) sl.length sc)∧w'.cell? ⟨w.heap.size,11,none⟩=some (.slice g.A g.l.length g.c)∧w'.cell? ⟨w.heap.size,12,none⟩=some (.slice q.A q.l.length q.c)∧w'.cell? ⟨b,off+i*7,none⟩=some (.string dnm)∧w'.cell? ⟨b,off+i*7+1,none⟩=some (.slice dda.A dda.l.length dda.c)∧w'.cell? ⟨b,off+i*7+2,none⟩=some (.slice dwi.A dwi.l.length dwi.c)∧w'.cell? ⟨b,off+i*7+3,none⟩=some (.string dpl)∧w'.cell? ⟨b,off+i*7+4,none⟩=some (.string dse)∧w'.cell? ⟨b,off+i*7+5,none⟩=some (.string dha)∧w'.cell? ⟨b,off+i*7+6,none⟩=some (.slice dci.A dci.l.length dci.c)):=fun w' v=>⟨v,v.cell x0,v.cell x1,v.cell x2,v.cell x3,v.cell x4,v.cell x5,v.cell x6,v.cell x7,v.cell x8,v.cell x9,v.cell x10,v.cell x11,v.cell x12,v.cell q0,v.cell q1,v.cell q2,v.cell q3,v.cell q4,v.cell q5,v.cell q6⟩
    have hXr:Up w1 wr:=HU.out
    have hXd:Up w1 wr.drew:=HU.out.drew
    go_region_held_law (fun w'=>Up w1 w'∧w'.cell? ⟨w.heap.size,0,none⟩=some (.slice x.rs.A x.rs.l.length x.rs.c)∧w'.cell? ⟨w.heap.size,1,none⟩=some (.int .i64 x.fr)∧w'.cell? ⟨w.heap.size,2,none⟩=some (.int .i64 x.to_)∧w'.cell? ⟨w.heap.size,3,none⟩=some (.slice x.ps.A x.ps.l.length x.ps.c)∧w'.cell? ⟨w.heap.size,4,none⟩=some (.slice x.ts.A x.ts.l.length x.ts.c)∧w'.cell? ⟨w.heap.size,5,none⟩=some (.slice x.pl.A x.pl.l.length x.pl.c)∧w'.cell? ⟨w.heap.size,6,none⟩=some (.slice x.ws.A x.ws.l.length x.ws.c)∧w'.cell? ⟨w.heap.size,7,none⟩=some (.slice x.st.A x.st.l.length x.st.c)∧w'.cell? ⟨w.heap.size,8,none⟩=some (.slice x.se.A x.se.l.length x.se.c)∧w'.cell? ⟨w.heap.size,9,none⟩=some (.slice x.ha.A x.ha.l.length x.ha.c)∧w'.cell? ⟨w.heap.size,10,none⟩=some (.slice (some ⟨b,off,none⟩) sl.length sc)∧w'.cell? ⟨w.heap.size,11,none⟩=some (.slice g.A g.l.length g.c)∧w'.cell? ⟨w.heap.size,12,none⟩=some (.slice q.A q.l.length q.c)∧w'.cell? ⟨b,off+i*7,none⟩=some (.string dnm)∧w'.cell? ⟨b,off+i*7+1,none⟩=some (.slice dda.A dda.l.length dda.c)∧w'.cell? ⟨b,off+i*7+2,none⟩=some (.slice dwi.A dwi.l.length dwi.c)∧w'.cell? ⟨b,off+i*7+3,none⟩=some (.string dpl)∧w'.cell? ⟨b,off+i*7+4,none⟩=some (.string dse)∧w'.cell? ⟨b,off+i*7+5,none⟩=some (.string dha)∧w'.cell? ⟨b,off+i*7+6,none⟩=some (.slice dci.A dci.l.length dci.c))
     ((refine KP _ ?_;first|exact Up.refl _|exact(Up.refl _).drew|assumption|exact Up.drew (by assumption)|exact Up.allocs (by assumption) _))
     ((first
       |(go_at_call 18
         (with_reducible refine(C.out _ (u.trans (by assumption))).mono ?_)
         rintro e w4 ⟨v4,rfl,ho4,v1⟩
         have V1:Up wr w4:=(by first|exact v1|exact(Up.refl _).drew.trans v1)
         have VW:Up w1 w4:=HU.out.trans V1
         obtain⟨A4,c4,rfl,hc4,hm4,-,-⟩:=own_form ho4
         have HO4:=qh (own_base (base':=wr.heap.size) ho4 (Nat.le_refl _))
         have Vb:Up w1 (w4.alloc (.cells #[.slice A4 (srcS x.p P k).length c4] 76)):=VW.allocs _
         clear ho4)
       |(have hoA:OwA (w4.alloc (.cells #[.slice A4 (srcS x.p P k).length c4] 76)) w1.heap.size (rwL (.slice Ao L.length co) L :: (L.map rwSp++[rwSp ⟨A4,c4,srcS x.p P k⟩])):=(by
          have h1:=(HO.out.append V1 HU.out.size (OwA.one (r:=rwSp ⟨A4,c4,srcS x.p P k⟩) HO4.out)).up (Up.alloc w4 (.cells #[.slice A4 (srcS x.p P k).length c4] 76))
          simpa using h1)
         refine step_append_lies _ rfl (.tmp 26) (.tmp 36) 75 rfl w1.heap.size 76 i0 _ 1 24 Tryz.underlying75 hI0 hz0 hz1 hz2 rfl (by decide) (.slice Ao L.length co) L.length (L.flatMap slC) (by simp[Act.eval]) hoA.hd ⟨w4.heap.size,0,none⟩ 1 1 [.slice A4 (srcS x.p P k).length c4] (by simp[Act.eval]) rfl (cell_one_new _ _ _) (by simp[Value.oneCell']) (by decide) n1 n2 Vb.size _ rfl ?_
         intro g cap w9 hown9 hg9 hat hlt9
         have hUU:Up w1 w9:=Vb.grown hg9 (fun b hb=>(hoA.hd.lt b hb).1))))
    all_goals
     have hnew:OwA w9 w1.heap.size (rwL (.slice (some ⟨g,0,none⟩) (L.length+1) cap) (L++[(⟨A4,c4,srcS x.p P k⟩:Sl Sp)]) :: (L++[(⟨A4,c4,srcS x.p P k⟩:Sl Sp)]).map rwSp):=by
      have h1:=hoA.push (r':=rwL (.slice (some ⟨g,0,none⟩) (L.length+1) cap) (L++[(⟨A4,c4,srcS x.p P k⟩:Sl Sp)])) (by simpa[rwL,Rw.own,slC] using hown9) hg9 (by
       rcases hat with h|h
       ·exact .inl h.symm
       ·exact .inr (by rw[h];simp[rwL,Value.ownBlock]))
      simpa using h1
     have HNEW:=qh hnew
     clear hnew hoA hown9 hg9 hat x0 x1 x2 x3 x4 x5 x6 x7 x8 x9 x10 x11 x12 q0 q1 q2 q3 q4 q5 q6 KP hXr hXd;go_wp2;go_roundw
     case rel=>exact⟨k+1,L++[⟨A4,c4,srcS x.p P k⟩],by omega,by go_num,qh (by rw[List.length_append,hLk.out];rfl),qh (by rw[List.map_append,hL.out,List.range_succ,List.map_append];rfl),HNEW.out,hUU⟩
     case measure=>simp[intOf];omega
   ·have hl4:decide ((k:Int)≤4)=false:=decide_eq_false (by omega)
    obtain rfl:k=5:=by omega
    rename World=>w4
    have hL5:L.length=5:=hLk.out
    have HRD:=qh (show ∃lo,Rd w4 lo w4.heap.size 1 slC Ao L from⟨_,Rd.own slC_len (base:=_) (e:=76) (c:=co) ho.hd⟩)
    have HRE:=qh (show ∀s∈L,∃a,RdP w4 a w4.heap.size s.A s.l from fun s hs=>⟨_,Rd.own spC_len (base:=_) (e:=84) (c:=s.c) (ho.each (rwSp s) (List.mem_cons_of_mem _ (List.mem_map_of_mem hs)))⟩)
    have HLK:=qh (show ∀(k:Nat) (m:Sl Sp),L[k]?=some m→m.l=srcS x.p P k from fun k m hm=>by
     have h1:(L.map (·.l))[k]?=some m.l:=by rw[List.getElem?_map,hm];rfl
     rw[hL.out,List.getElem?_map]at h1;rcases hr:(List.range 5)[k]? with _|z
     ·rw[hr]at h1;cases h1
     ·rw[hr]at h1
      have hz:=List.getElem?_eq_some_iff.1 hr
      have:z=k:=by have:=hz.2;simpa using this.symm
      rw[← this];exact(Option.some.inj h1).symm)
    have HL5:=qh hL5
    obtain⟨_,x1,x2,_,_,_,_,_,_,_,_,_,_⟩:=(hA.up hup).c13
    have U:=u.trans hup
    rw[hL5,show((5:Nat):Int)=5 from rfl];clear ho hL hLk hL5 hA hup u CS q0 q1 q2 q3 q4 q5 q6 hI0 hz0 hz1 hz2;go_wp2_with fail
    have hown0:=World.ownsRow_lit (base:=w4.heap.size) (e:=2) (size:=1) w4 #[] 0 (Nat.le_refl _) (by simp[maxLen]) rfl
    have hup0:=(Up.refl w4).allocs (.cells #[] 2)
    obtain⟨v0,hv0⟩:∃v,v=Value.slice (some ⟨w4.heap.size,0,none⟩) 0 0:=⟨_,rfl⟩
    rw[← hv0]at hown0 ⊢
    generalize w4.alloc (.cells #[] 2)=W6 at *
    clear hv0;go_loopw [9,10,11,12,13,14] (fun t9 t10 t11 _ _ _ wr=>∃k:Nat,k≤32∧t11=.int .i64 k∧t10=.bool (fwB ok k).isSome∧wr.ownsRow w4.heap.size 2 1 t9 ((fwB ok k).getD []).length (((fwB ok k).getD []).flatMap intCells)∧Up w4 wr) (fun _ _ t11 _ _ _ _=>32-(intOf t11).toNat)
    case atStart=>exact⟨0,by omega,rfl,rfl,hown0,hup0⟩
    case round =>
     clear hown0 hup0;rename World=>wo
     obtain⟨k,hk,rfl,rfl,hbo,hwo⟩:=hrel
     obtain⟨Ab,cb,rfl,-,-,-,-⟩:=own_form hbo
     by_cases hlt:k<32
     ·have hd32:decide ((k:Int)<32)=true:=decide_eq_true (by omega)
      have CB:=qh (l12Members_any k wo hlt)
      have HFS:=qh (show fwB ok (k+1)=fdS ok (fwB ok k) k from rfl)
      have HHS:=qh (show ∀j:Nat,j<5→hasB (mbs k) (j:Int)=k.testBit j from fun j hj=>has_mbs hlt hj)
      obtain⟨fd,hfd⟩:∃z,z=(fwB ok k).isSome:=⟨_,rfl⟩
      obtain⟨bl,hbl⟩:∃z,z=(fwB ok k).getD []:=⟨_,rfl⟩
      have HCF:=qh (show(fd=false→fwB ok k=none)∧(fd=true→fwB ok k=some bl)∧bl.length≤5 from by
       rw[hfd,hbl];rcases hq:fwB ok k with _|b
       ·exact⟨fun _=>rfl,fun h=>(by cases h),by simp⟩
       ·refine⟨fun h=>by(cases h),fun _=>rfl,?_⟩
        obtain⟨z,-,e⟩:=HB.out k b hq
        rw[e];exact mbs_len z)
      have HV:=qh (show(fwB ok k).isSome=fd∧(fwB ok k).getD []=bl from⟨hfd.symm,hbl.symm⟩)
      rw[← hfd,← hbl];rw[← hbl]at hbo;obtain⟨ms,hms⟩:∃z,z=mbs k:=⟨_,rfl⟩
      have hml:ms.length≤5:=by rw[hms];exact mbs_len k
      unfold fdS at HFS
      rw[← hms]at CB HFS HHS;clear hfd hbl hms;go_wp2_with fail
      refine CB.out.mono ?_
      rintro e w5 ⟨v5,rfl,ho5,v⟩
      obtain⟨A5,c5,rfl,-,-,-,-⟩:=own_form ho5
      have y1:=(hwo.trans v).cell x1
      have y2:=(hwo.trans v).cell x2
      go_wp2_with fail
      have hownS:=World.ownsRow_lit (base:=w5.heap.size) (e:=84) (size:=2) w5 #[.int .i64 x.fr,.int .i64 x.to_] 1 (Nat.le_refl _) (by simp[maxLen]) rfl
      have hupS:=(Up.refl w5).allocs (.cells #[.int .i64 x.fr,.int .i64 x.to_] 84)
      obtain⟨v6,hv6⟩:∃v,v=Value.slice (some ⟨w5.heap.size,0,none⟩) 1 1:=⟨_,rfl⟩
      rw[← hv6]at hownS ⊢
      generalize w5.alloc (.cells #[.int .i64 x.fr,.int .i64 x.to_] 84)=W7 at *
      clear hv6 y1 y2;have HF0:=qh (HK0.out k)
      go_loopw [13,14] (fun t13 t14 wr=>∃(j:Nat) (O:List Sp),j≤5∧t14=.int .i64 j∧Hid (O=fdK x.p P k j)∧wr.ownsRow w5.heap.size 84 2 t13 O.length (O.flatMap spC)∧Up w5 wr) (fun _ t14 _=>5-(intOf t14).toNat)
      case atStart=>exact⟨0,[(x.fr,x.to_)],by omega,rfl,qh HF0.out,hownS,hupS⟩
      case round =>
       clear hownS hupS;obtain⟨j,O,hj,rfl,HO,hown,hui⟩:=hrel
       obtain⟨AO,cO,rfl,-,-,-,-⟩:=own_form hown
       have hwu:=hwo.trans v
       by_cases hjt:j<5
       ·obtain⟨lo4,rd4⟩:=HRD.out
        obtain⟨b4,off4,m,rfl,-,-,hm,c0⟩:=(rd4.up (hwu.trans hui) (Nat.le_refl _)).sl (k:=j) (by rw[HL5.out];exact hjt)
        have HSR:=qh (HLK.out j m hm)
        obtain⟨am,hrm⟩:=HRE.out m (List.mem_of_getElem? hm)
        have hrm2:=hrm.up (hwu.trans hui) (Nat.le_refl _)
        have hsm:=Nat.le_trans hwu.size hui.size
        have CH:=qh (l01Has_any A5 ms c5 _ _ (j:Int) wr (Rd.own int_len (own_up ho5 hui)) (by omega))
        have HHJ:=qh (HHS.out j hjt)
        have HOL:Hid (O.length≤100000):=qh (by have:=HKL.out k j;rw[HO.out];omega)
        have HML:Hid (m.l.length≤100000):=qh (by have:=HSL.out j;rw[HSR.out];omega)
        clear rd4 hm hrm;obtain⟨mA,mc,ml⟩:=m
        simp only[]at *;have CM:=qh (specMeet_any AO mA O ml cO mc _ _ _ _ wr (Rd.own spC_len hown) (Nat.le_refl _) hrm2 hsm HOL.out HML.out)
        rcases ht:k.testBit j with _|_
        ·rw[HHJ.out,ht]at CH
         have HX:=qh (show metL O ml=fdK x.p P k (j+1) by rw[HO.out,HSR.out];exact fdK_no ht)
         clear ht hrm2 hown;go_wp2_with (first|(go_at_call 20;refine CH.out.mono ?_;rintro e w7 ⟨rfl,rfl⟩)|(go_at_call 21;refine CM.out.mono ?_;rintro e w8 ⟨v8,rfl,ho8,u8'⟩))
         have HO8:=qh (own_base ho8 hui.size)
         clear ho8;go_roundw
         case rel=>exact⟨j+1,metL O ml,by omega,by go_num,HX,HO8.out,hui.trans u8'⟩
         case measure=>simp[intOf];omega
        ·rw[HHJ.out,ht]at CH
         have HX:=qh (show O=fdK x.p P k (j+1) by rw[HO.out,fdK_yes ht])
         clear ht hrm2;go_wp2_with (go_at_call 20;refine CH.out.mono ?_;rintro e w7 ⟨rfl,rfl⟩)
         go_roundw
         case rel=>exact⟨j+1,O,by omega,by go_num,HX,hown,hui⟩
         case measure=>simp[intOf];omega
       ·obtain rfl:j=5:=by omega
        have HFK:=qh (show ok k=decide (0<O.length) by rw[HOK.out k,HO.out])
        have hU:=hwu.trans hui
        rcases hok:ok k with _|_
        ·rw[hok]at HFK HFS
         have hgt:¬ 0<O.length:=by have:=HFK.out;simpa using this
         have HN:=qh HFS.out
         simp only[Bool.false_and,Bool.false_eq_true,if_false]at HN
         clear hok;go_wp2;go_roundw
         case rel=>exact⟨k+1,by omega,by go_num,by rw[HN.out,HV.out.1],by rw[HN.out,HV.out.2];exact own_up hbo (v.trans hui),hU⟩
         case measure=>simp[intOf];omega
        ·rw[hok]at HFK HFS
         have hgt:0<O.length:=by have:=HFK.out;simpa using this
         have HN:=qh HFS.out
         simp only[Bool.true_and]at HN
         clear hok;rcases fd with _|_
         ·rw[HCF.out.1 rfl]at HN
          simp only[fdT,if_true]at HN
          go_wp2;go_roundw
          case rel=>exact⟨k+1,by omega,by go_num,by rw[HN.out];rfl,by rw[HN.out];exact own_up (own_base ho5 hwo.size) hui,hU⟩
          case measure=>simp[intOf];omega
         ·rw[HCF.out.2.1 rfl]at HN
          simp only[fdT]at HN
          have hbl5:=HCF.out.2.2
          have CQ:=qh (l12Better_any A5 Ab ms bl c5 cb _ _ _ _ wr (Rd.own int_len (own_up ho5 hui)) (Nat.le_refl _) (Rd.own int_len (own_up hbo (v.trans hui))) (Nat.le_refl _) (by omega))
          rcases hb:btB ms bl with _|_
          ·rw[hb]at CQ
           replace HN:=qh (show fwB ok (k+1)=some bl by rw[HN.out];simp[hb])
           clear hb;go_wp2_with (go_at_call 22;refine CQ.out.mono ?_;rintro e w9 ⟨rfl,u9'⟩)
           go_roundw
           case rel=>exact⟨k+1,by omega,by go_num,by rw[HN.out];rfl,by rw[HN.out];exact own_up hbo ((v.trans hui).trans u9'),hU.trans u9'⟩
           case measure=>simp[intOf];omega
          ·rw[hb]at CQ
           replace HN:=qh (show fwB ok (k+1)=some ms by rw[HN.out];simp[hb])
           clear hb;go_wp2_with (go_at_call 22;refine CQ.out.mono ?_;rintro e w9 ⟨rfl,u9'⟩)
           go_roundw
           case rel=>exact⟨k+1,by omega,by go_num,by rw[HN.out];rfl,by rw[HN.out];exact own_up (own_base ho5 hwo.size) (hui.trans u9'),hU.trans u9'⟩
           case measure=>simp[intOf];omega
     ·obtain rfl:k=32:=by omega
      have HO:=qh hbo
      have hdn:decide ((32:Int)<32)=false:=by decide
      go_wp2;go_ret2;exact⟨.slice Ab ((fwB ok 32).getD []).length cb,rfl,own_base HO.out U.size,U.trans hwo⟩
 ·have HR:=qh (show fdR x.p (s.l.map Dd.p) g.l q.l i=([],evC x.p (s.l.map Dd.p) g.l q.l i) by unfold fdR;rw[if_neg hc])
  rw[HR.out];obtain⟨cc,hcc⟩:∃z,z=evC x.p (s.l.map Dd.p) g.l q.l i:=⟨_,rfl⟩
  rw[← hcc]at hc CC ⊢
  have hcd:(cc != 0)=true:=bne_iff_ne.2 hc
  clear hcc h h2 h3 h4 HR;go_enter Tryz.func5,Tryz.ntmps5
  go_wp2_with fail
  generalize w.alloc (.cells #[.slice x.rs.A x.rs.l.length x.rs.c,.int .i64 x.fr,.int .i64 x.to_,.slice x.ps.A x.ps.l.length x.ps.c,.slice x.ts.A x.ts.l.length x.ts.c,.slice x.pl.A x.pl.l.length x.pl.c,.slice x.ws.A x.ws.l.length x.ws.c,.slice x.st.A x.st.l.length x.st.c,.slice x.se.A x.se.l.length x.se.c,.slice x.ha.A x.ha.l.length x.ha.c,.slice s.A s.l.length s.c,.slice g.A g.l.length g.c,.slice q.A q.l.length q.c] 63)=X at *
  refine(CC.out _ u).mono ?_
  rintro e w1 ⟨rfl,v⟩
  replace u:=u.trans v;go_wp2;go_ret2;exact⟨_,rfl,World.ownsRow_nil _ _ _ _,u⟩
end Go.Proofs.YtihcmhmanfobcaaGreatDoor
