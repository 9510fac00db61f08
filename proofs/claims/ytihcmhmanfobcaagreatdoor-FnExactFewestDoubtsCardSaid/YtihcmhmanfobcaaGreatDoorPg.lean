/- The days on which a witness could sign, the program's. -/
import Derived.Test.YtihcmhmanfobcaaGreatDoorPe
import Derived.Test.YtihcmhmanfobcaaGreatDoorCh
import Derived.BigRegion
import Derived.Maps.AppendAt
import Derived.OneCell
import Derived.Deep.CutRange
set_option maxHeartbeats 8000000
set_option maxRecDepth 100000
namespace Go.Proofs.YtihcmhmanfobcaaGreatDoor
open Go.RowKit Go.Sort
theorem termsOf_any(PA:Option Addr)(pn pc:Nat)(s:Sl Tm)(of pe:ByteArray)(lo hi:Nat)(w:World)(h:SrTm w lo hi s)(hn':s.l.length≤100000)(hpe:pe.toList≠[]) :
 Calls Tryz.prog 169 #[.agg #[.slice PA pn pc,.slice s.A s.l.length s.c],.string of,.string pe] w fun e w'=>∃v,e=.returned v∧w'.ownsRow w.heap.size 84 2 v (ofL s.l of pe).length ((ofL s.l of pe).flatMap spC)∧Up w w':=by
 obtain⟨A,c,l⟩:=s
 have hr:=h.rd
 have hhi:=h.hhi
 have hn:l.length≤100000:=hn'
 obtain⟨i0,hi0,hz0,hz1,hz2⟩:=info_parts infoSp
 clear h hn';show Calls _ _ #[.agg #[.slice PA pn pc,.slice A l.length c],_,_] _ fun e w'=>∃v,e=.returned v∧w'.ownsRow w.heap.size 84 2 v (ofL l of pe).length ((ofL l of pe).flatMap spC)∧Up w w'
 have hpe1:pe.toList.isEmpty=false:=by simp[hpe]
 clear hpe;have u:=Up.alloc w (.cells #[.slice PA pn pc,.slice A l.length c] 52)
 have hC:=Bx.new w #[.slice PA pn pc,.slice A l.length c] 52
 go_enter Tryz.func169,Tryz.ntmps169
 go_wp2_with fail
 have hsz:(w.alloc (.cells #[.slice PA pn pc,.slice A l.length c] 52)).heap.size=w.heap.size+1:=by simp
 generalize w.alloc (.cells #[.slice PA pn pc,.slice A l.length c] 52)=W0 at *
 have hown0:=World.ownsRow_lit (base:=W0.heap.size) (e:=84) (size:=2) W0 #[] 0 (Nat.le_refl _) (by simp[maxLen]) rfl
 have hup0:=(Up.refl W0).allocs (.cells #[] 84)
 obtain⟨v0,hv0⟩:∃v,v=Value.slice (some ⟨w.heap.size+1,0,none⟩) 0 0:=⟨_,rfl⟩
 rw[show Value.slice (some ⟨W0.heap.size,0,none⟩) 0 0=v0 by rw[hv0,hsz]]at hown0
 rw[← hv0];clear hsz;generalize W0.alloc (.cells #[] 84)=w2 at *
 clear hv0;go_loopw [7,9,14] (fun o bx i wr=>∃k:Nat,∃O:List Sp,k≤l.length∧i=.int .i64 k∧O=ofL (l.take k) of pe∧O.length≤k∧wr.ownsRow W0.heap.size 84 2 o O.length (O.flatMap spC)∧Up W0 wr) (fun _ _ i _=>l.length-(intOf i).toNat)
 case atStart=>exact⟨0,[],Nat.zero_le _,rfl,rfl,Nat.zero_le _,hown0,hup0⟩
 case round =>
  clear hown0 hup0;obtain⟨k,O,hk,rfl,hO,hOn,hown,hui⟩:=hrel
  have HO:=qh hO
  clear hO;obtain⟨Ao,co,rfl,hco,hcm,-,-⟩:=own_form hown
  have hup:=u.trans hui
  by_cases hlt:k<l.length
  ·obtain⟨b,off,d,rfl,hlo,hb,hd,q0,q1,q2,q3⟩:=(hr.up hup hhi).tm hlt
   have HD:=qh hd
   clear hd;have hub:=Up.alloc wr (.cells #[.string d.of_,.string d.pe,.int .i64 d.fr,.int .i64 d.to_] 236)
   have hX:=Bx.new wr #[.string d.of_,.string d.pe,.int .i64 d.fr,.int .i64 d.to_] 236
   have hownb:=own_up hown hub
   have hupb:=hui.trans hub
   rcases he:(d.of_.toList==of.toList) with _|_
   ·have HT:=qh (show((d.of_.toList==of.toList) && (d.pe.toList==pe.toList))=false by rw[he];rfl)
    go_wp2;go_roundw
    case rel=>exact⟨k+1,O,by omega,by go_num,by rw[ofL_no HD.out HT.out];exact HO.out,by omega,hownb,hupb⟩
    case measure=>simp[intOf];omega
   ·rcases he2:(d.pe.toList==pe.toList) with _|_
    ·have HT:=qh (show((d.of_.toList==of.toList) && (d.pe.toList==pe.toList))=false by rw[he,he2];rfl)
     go_wp2;go_roundw
     case rel=>exact⟨k+1,O,by omega,by go_num,by rw[ofL_no HD.out HT.out];exact HO.out,by omega,hownb,hupb⟩
     case measure=>simp[intOf];omega
    ·have HT:=qh he
     have HT2:=qh he2
     have n1:O.length+1≤maxLen:=by unfold maxLen;omega
     have n2:(O.length+1)*16≤140737488355328:=by omega
     obtain⟨r0,r1,r2,r3⟩:=hX.c4
     have n3:W0.heap.size≤((wr.alloc (.cells #[.string d.of_,.string d.pe,.int .i64 d.fr,.int .i64 d.to_] 236)).alloc (.cells #[.int .i64 d.fr,.int .i64 d.to_] 84)).heap.size:=(hupb.allocs _).size
     have hcn:∀j u,[Value.int .i64 d.fr,.int .i64 d.to_][j]?=some u→((wr.alloc (.cells #[.string d.of_,.string d.pe,.int .i64 d.fr,.int .i64 d.to_] 236)).alloc (.cells #[.int .i64 d.fr,.int .i64 d.to_] 84)).cell? ((⟨wr.heap.size+1,0,none⟩:Addr).add j)=some u:=by
      have:=cell_two_newP (wr.alloc (.cells #[.string d.of_,.string d.pe,.int .i64 d.fr,.int .i64 d.to_] 236)) (.int .i64 d.fr) (.int .i64 d.to_) 84
      rw[show(wr.alloc (.cells #[.string d.of_,.string d.pe,.int .i64 d.fr,.int .i64 d.to_] 236)).heap.size=wr.heap.size+1 by simp]at this
      exact this
     have HCN:=qh hcn
     have HOW:=qh (hownb.alloc (.cells #[.int .i64 d.fr,.int .i64 d.to_] 84))
     clear hown hcn;go_wp2_with ((at_builtin;refine wpList_append_own _ rfl _ _ 76 rfl W0.heap.size 84 i0 _ 2 16 Tryz.underlying76 hi0 hz0 hz1 hz2 rfl (by decide) _ _ _ rfl HOW.out ⟨wr.heap.size+1,0,none⟩ 1 1 [.int .i64 d.fr,.int .i64 d.to_] rfl rfl HCN.out (by simp[Value.oneCell']) n1 n2 n3 ?_))
     intro v' w4 hown' hgrow _
     have hu4:=(hupb.allocs (.cells #[.int .i64 d.fr,.int .i64 d.to_] 84)).grown hgrow (fun k hk=>(hownb.lt k hk).1)
     clear hgrow hownb r0 r1 r2 r3 HCN HOW;go_wp2;go_roundw
     case rel=>exact⟨k+1,O++[(d.fr,d.to_)],by omega,by go_num,by rw[ofL_yes HD.out HT.out HT2.out,HO.out],by simp;omega,by simpa[spC] using hown',hu4⟩
     case measure=>simp[intOf];omega
  ·obtain rfl:k=l.length:=by omega
   have hfin:O=ofL l of pe:=by rw[HO.out,List.take_of_length_le (Nat.le_refl _)]
   clear HO hOn;subst hfin;go_wp2;go_ret;exact⟨_,rfl,own_base hown u.size,u.trans hui⟩
theorem nm_ne{l:List Nm}{s:ByteArray}(h:nmIn l s=true)(hne:∀d∈l,d.nm.toList≠[]):s.toList≠[]:=by
 obtain⟨x,hx,hx2⟩:=List.any_eq_true.1 h
 intro e
 rw[e]at hx2;exact hne x hx (by simpa using hx2)
theorem witnessDays_any(s:Sl Nm)(t:Sl Tm)(z:Wi)(lo hi lo' hi':Nat)(w:World)(h:SrNm w lo hi s)(h':SrTm w lo' hi' t)(hn':t.l.length≤100000)(hd:∀d∈s.l,spanB d.fr d.to_=true)(hd':∀d∈t.l,spanB d.fr d.to_=true)(hw:nmIn s.l z.pe=true)(hne:∀d∈s.l,d.nm.toList≠[]) :
 Calls Tryz.prog 116 #[.agg #[.slice s.A s.l.length s.c,.slice t.A t.l.length t.c],z.val] w fun e w'=>∃v,e=.returned (.tuple #[v,.bool true])∧w'.ownsRow w.heap.size 84 2 v (couS s.l t.l z).length ((couS s.l t.l z).flatMap spC)∧Up w w':=by
 have hpe:=nm_ne hw hne
 have u:=(Up.alloc w (.cells #[.slice s.A s.l.length s.c,.slice t.A t.l.length t.c] 52)).allocs (.cells #[.string z.pe,.string z.of_] 167)
 have hC:=(Bx.new w #[.slice s.A s.l.length s.c,.slice t.A t.l.length t.c] 52).up (Up.alloc _ (.cells #[.string z.pe,.string z.of_] 167))
 have hD:=Bx.new (w.alloc (.cells #[.slice s.A s.l.length s.c,.slice t.A t.l.length t.c] 52)) #[.string z.pe,.string z.of_] 167
 have CO:=qh (fun(wx:World) (v:Up w wx)=>termsOf_any s.A s.l.length s.c t z.of_ z.pe lo' hi' wx (h'.up v) hn' hpe)
 have CP:=qh (fun(wx:World) (v:Up w wx)=>personIndex_any s t z.pe lo hi wx (h.up v))
 have hsz:(w.alloc (.cells #[.slice s.A s.l.length s.c,.slice t.A t.l.length t.c] 52)).heap.size=w.heap.size+1:=by simp
 rw[hsz]at hD;have HL:=qh (couS_of (ps:=s.l) (ts:=t.l) (z:=z) · hd')
 have HK:=qh (fun k d (a:z.of_.toList=[])=>couS_pe (ps:=s.l) (ts:=t.l) (z:=z) (k:=k) (d:=d) a hd)
 have HR:=qh h
 have HBD:=qh (show BdS (ofL t.l z.of_ z.pe)∧OkS (ofL t.l z.of_ z.pe) from DyS.bd (ofL_dy hd'))
 have HLN:=qh (show(ofL t.l z.of_ z.pe).length≤100000 from Nat.le_trans (ofL_len _ _ _) hn')
 clear hd hd' hn' h' h hpe hne;obtain⟨k,d,hpx,hk,hnm,hbf⟩:∃(k:Nat) (d:Nm),pix s.l z.pe=k∧s.l[k]?=some d∧(d.nm.toList==z.pe.toList)=true∧∀j x,j<k→s.l[j]?=some x→(x.nm.toList==z.pe.toList)=false:=by
  rcases ixB_or s.l (fun x=>x.nm.toList==z.pe.toList) with⟨-,h2⟩|h2
  ·exfalso
   obtain⟨x,hx,hx2⟩:=List.any_eq_true.1 hw
   rw[h2 x hx]at hx2;cases hx2
  ·exact h2
 have hkl:=(List.getElem?_eq_some_iff.1 hk).1
 have hkm:k<2000000:=by have:=HR.out.len;exact Nat.lt_of_lt_of_le hkl this
 have hpc:=fun(wx:World) (v:Up w wx)=>CP.out wx v
 simp only[hpx]at hpc
 have CQ:=qh hpc
 have HE:=qh (fun a=>HK.out k d a hk hnm hbf)
 obtain⟨pe,of_⟩:=z
 obtain⟨A,c,l⟩:=s
 obtain⟨B,c',m⟩:=t
 simp only[]at *;obtain⟨b,off,d',rfl,-,-,hd,q0,q1,q2⟩:=(HR.out.rd.up u HR.out.hhi).nm hkl
 rw[hk]at hd;cases hd;clear hpc hpx hk hnm hbf CP hw HK;by_cases h1:of_.toList=[]
 ·have h1e:of_.toList.isEmpty=true:=by simp[h1]
  have HE2:=qh (HE.out h1)
  clear h1 HL CO HE;go_enter Tryz.func116,Tryz.ntmps116
  go_wp2_with fail
  generalize (w.alloc (.cells #[.slice (some ⟨b,off,none⟩) l.length c,.slice B m.length c'] 52)).alloc (.cells #[.string pe,.string of_] 167)=W1 at *
  clear hsz;refine(CQ.out _ u).mono ?_
  rintro e w3 ⟨rfl,v⟩
  replace hC:=hC.up v;replace hD:=hD.up v;replace u:=u.trans v;replace q0:=v.cell q0;replace q1:=v.cell q1;replace q2:=v.cell q2;clear v;obtain⟨c0,c1⟩:=hC.c2
  obtain⟨d0,d1⟩:=hD.c2
  go_wp2_with fail
  clear d0 d1 c1 q0 hC hD CQ;go_region
  all_goals
   go_wp2;go_ret2;exact⟨_,rfl,by rw[← HE2.out];exact own_up (World.ownsRow_lit (base:=w.heap.size) (e:=84) (size:=2) w3 #[.int .i64 d.fr,.int .i64 d.to_] 1 u.size (by simp[maxLen]) rfl) (Up.refl _).drew,(u.allocs _).drew⟩
 ·have h1e:of_.toList.isEmpty=false:=by simp[h1]
  have HL2:=qh (HL.out h1)
  clear h1 HL HE;go_enter Tryz.func116,Tryz.ntmps116
  go_wp2_with fail
  generalize (w.alloc (.cells #[.slice (some ⟨b,off,none⟩) l.length c,.slice B m.length c'] 52)).alloc (.cells #[.string pe,.string of_] 167)=W1 at *
  clear hsz;refine(CQ.out _ u).mono ?_
  rintro e w3 ⟨rfl,v⟩
  replace hC:=hC.up v;replace hD:=hD.up v;replace u:=u.trans v;clear v q0 q1 q2;obtain⟨c0,c1⟩:=hC.c2
  obtain⟨d0,d1⟩:=hD.c2
  go_wp2_with fail
  refine(CO.out _ u).mono ?_
  rintro e w4 ⟨v4,rfl,ho,v1⟩
  obtain⟨A4,c4,rfl,hc4,hm4,-,-⟩:=own_form ho
  have HU:=qh (unitedA_any A4 (ofL m of_ pe) c4 _ _ w4 (Rd.own spC_len ho) (Nat.le_refl _) HLN.out HBD.out.1 HBD.out.2)
  replace u:=u.trans v1;clear v1 ho;go_wp2_with (go_at_call 168;refine HU.out.mono ?_;rintro e w5 ⟨v5,rfl,ho5,v2⟩)
  go_ret2;exact⟨_,rfl,by rw[← HL2.out];exact own_base ho5 u.size,u.trans v2⟩
def adL(f t:Int):List Sp:=if f≤t then [(f,t)] else []
structure OutB (w0 w:World) (bo:Nat) (v:Value) (O:List Sp):Prop where
 own:w.ownsRow w0.heap.size 84 2 v O.length (O.flatMap spC)
 box:Bx w bo [v]
 ne:v.ownBlock≠some bo
 le:w0.heap.size≤bo
 up:Up w0 w
theorem OutB.ups{w0 w w':World}{bo:Nat}{v:Value}{O:List Sp}(h:OutB w0 w bo v O)(u:Up w w'):OutB w0 w' bo v O:=⟨own_up h.own u,h.box.up u,h.ne,h.le,h.up.trans u⟩
theorem Bx.grown{w w':World}{b:Nat}{cs:List Value}{row:Option Nat}(h:Bx w b cs)(g:w.grownBy w' row)(hne:row≠some b):Bx w' b cs:=fun j u hu=>by
 have hlt:=block_lt_of_cell (h j u hu).1
 have e:=g.block b hlt (fun e=>hne e.symm)
 exact⟨by rw[World.cell?_of_block (a:=⟨b,j,none⟩) e];exact(h j u hu).1,by rw[World.frozen?_of_block (a:=⟨b,j,none⟩) e];exact(h j u hu).2⟩
def Kept(w w':World)(v v':Value)(bo:Nat):Prop :=
 ∀b cs,Bx w b cs→b≠bo→v.ownBlock≠some b→(cs≠[]→v'.ownBlock≠some b)∧Bx w' b cs
theorem Kept.get{w w':World}{v v':Value}{bo b:Nat}{c:Value}{cs:List Value}(h:Kept w w' v v' bo)(hb:Bx w b (c :: cs))(hne:b≠bo)(hv:v.ownBlock≠some b):v'.ownBlock≠some b∧Bx w' b (c :: cs) :=
 ⟨(h b _ hb hne hv).1 (by simp),(h b _ hb hne hv).2⟩
theorem cbAdd_any(f t:Int)(bo:Nat)(v:Value)(O:List Sp)(w0 w:World)(h:OutB w0 w bo v O)(hn:O.length≤1000) :
 Calls Tryz.prog 170 #[.int .i64 f,.int .i64 t,.pointer (some ⟨bo,0,none⟩)] w fun e w'=>e=.returned (.tuple #[])∧∃v',OutB w0 w' bo v' (O++adL f t)∧Kept w w' v v' bo:=by
 obtain⟨i0,hi0,hz0,hz1,hz2⟩:=info_parts infoSp
 obtain⟨Ao,co,rfl,hco,hcm,-,-⟩:=own_form h.own
 obtain⟨c0,f0⟩:=h.box 0 _ rfl
 have hbo:=h.box.lt
 by_cases hft:f≤t
 ·have HE:=qh (show adL f t=[(f,t)] by unfold adL;rw[if_pos hft])
  have hftd:decide (f≤t)=true:=decide_eq_true hft
  have n1:O.length+1≤maxLen:=by unfold maxLen;omega
  have n2:(O.length+1)*16≤140737488355328:=by omega
  have n3:w0.heap.size≤(w.alloc (.cells #[.int .i64 f,.int .i64 t] 84)).heap.size:=(h.up.allocs _).size
  have HOW:=qh (h.own.alloc (.cells #[.int .i64 f,.int .i64 t] 84))
  have HH:=qh h
  clear h;go_enter Tryz.func170,Tryz.ntmps170
  go_wp2_with ((at_builtin;refine wpList_append_own_at _ rfl _ _ 76 rfl w0.heap.size 84 i0 _ 2 16 Tryz.underlying76 hi0 hz0 hz1 hz2 rfl (by decide) _ _ _ rfl HOW.out ⟨w.heap.size,0,none⟩ 1 1 [.int .i64 f,.int .i64 t] rfl rfl (cell_two_newP _ _ _ _) (by simp[Value.oneCell']) n1 n2 n3 ?_))
  intro v' w4 hown' hgrow _ hat
  obtain⟨Av,cv,rfl,-,-,-,-⟩:=own_form hown'
  have hb4:=(HH.out.box.up (Up.alloc w (.cells #[.int .i64 f,.int .i64 t] 84))).grown hgrow HH.out.ne
  have hu4:=(HH.out.up.allocs (.cells #[.int .i64 f,.int .i64 t] 84)).grown hgrow (fun k hk=>(HOW.out.lt k hk).1)
  have HAT:Hid (∀b,b<w.heap.size→(Value.slice Ao O.length co).ownBlock≠some b→(Value.slice Av (O.length+1) cv).ownBlock≠some b):=qh (fun b hb hb2=>by
   rcases hat with h|h
   ·rw[h];exact hb2
   ·rw[h];simp;omega)
  have HKG:=qh (fun(b:Nat) (cs:List Value) (hb:Bx w b cs) (hne:(Value.slice Ao O.length co).ownBlock≠some b)=>(hb.up (Up.alloc w (.cells #[.int .i64 f,.int .i64 t] 84))).grown hgrow hne)
  have HO4:=qh hown'
  obtain⟨c4,f4⟩:=hb4 0 _ rfl
  clear hat hgrow hown' c0 f0;go_wp2;go_end0
  refine⟨rfl,.slice Av (O.length+1) cv,⟨?_,?_,?_,HH.out.le,hu4.setCell HH.out.le _⟩,fun b cs hb hne hv=>⟨fun hcs=>?_,(HKG.out b cs hb hv).other (fun e=>hne e.symm) _ _⟩⟩
  ·have:=ownsRow_setCell_other HO4.out (a:=⟨bo,0,none⟩) (HAT.out bo hbo HH.out.ne) (.slice Av (O.length+1) cv)
   rw[HE.out];simpa[spC] using this
  ·simpa using hb4.put 0 (.slice Av (O.length+1) cv)
  ·exact HAT.out bo hbo HH.out.ne
  ·rcases cs with _|⟨x,cs⟩
   ·exact absurd rfl hcs
   ·exact HAT.out b hb.lt hv
 ·have HE:=qh (show adL f t=[] by unfold adL;rw[if_neg hft])
  have hftd:decide (f≤t)=false:=decide_eq_false hft
  have HH:=qh h
  clear h;go_enter Tryz.func170,Tryz.ntmps170
  go_wp2;go_end0
  exact⟨rfl,_,by rw[HE.out,List.append_nil];exact HH.out,fun b cs hb _ hv=>⟨fun _=>hv,hb⟩⟩
theorem OutB.bk{w0 w:World}{bo:Nat}{v:Value}{O:List Sp}(h:OutB w0 w bo v O):v.ownBlock≠some w.heap.size:=fun e=>by
 obtain⟨A,c,rfl,-,-,-,hA⟩:=own_form h.own
 rcases A with _|a
 ·cases e
 ·obtain⟨g,rfl,-,hg⟩:=hA _ rfl
  simp[Value.ownBlock]at e
  omega
theorem gpL_ad(ws:List I3)(m:Nat)(st:List I3)(p i:Nat):adL (gpF ws m st p i) (gpT ws m st p i)=gpL ws m st p i:=rfl
theorem gpF_s{ws:List I3}{m:Nat}{st:List I3}{p q:Nat}{s:I3}{a:Nat}(h:st[q]?=some s)(ha:s.a=a):gpF ws m st p (q+1)=max (s.d+1) (s.d+fw ws m a p):=by
 simp only[gpF,h];rw[show s.a.toNat=a by omega];omega
theorem gpT_s{ws:List I3}{m:Nat}{st:List I3}{p q:Nat}{s:I3}{a:Nat}(h:st[q]?=some s)(ha:s.a=a):gpT ws m st p q=min (s.b-1) (s.b-fw ws m a p):=by
 simp only[gpT,h];rw[show s.a.toNat=a by omega];omega
theorem gpT_end{ws:List I3}{m:Nat}{st:List I3}{p:Nat}:gpT ws m st p st.length=730499:=by simp[gpT]
theorem couldBeDays_any(m:Nat)(tl:List I3)(st:Sl I3)(mv:Value)(p lo hi:Nat)(w:World)(_hm:m≤12)(hp:p<m)(hws:WaysOk tl m)(hM:MtR w mv m (fw tl m))(h:SrI3 w lo hi st)(hl40:st.l.length≤40)(hst:∀s∈st.l,syB m s=true) :
 Calls Tryz.prog 118 #[mv,.slice st.A st.l.length st.c,.int .i64 (p:Int)] w fun e w'=>∃v,e=.returned v∧w'.ownsRow w.heap.size 84 2 v (unL (cbL tl m st.l p)).length ((unL (cbL tl m st.l p)).flatMap spC)∧Up w w':=by
 obtain⟨A,c,l⟩:=st
 have hr:RdI3 w lo hi A l:=h.rd
 have hhi:=h.hhi
 have HST:=qh hst
 have hl:l.length≤40:=hl40
 clear h hl40 hst;show Calls _ _ #[_,.slice A l.length c,_] _ fun e w'=>∃v,e=.returned v∧w'.ownsRow w.heap.size 84 2 v (unL (cbL tl m l p)).length ((unL (cbL tl m l p)).flatMap spC)∧Up w w'
 obtain⟨g,cg,rfl,hMM⟩:=hM
 have HM:=qh hMM
 have HW:=qh (fun a b=>fw_bd hws m a b)
 clear hMM hws;obtain⟨fc,hfc⟩:∃f:FuncId,f=170:=⟨_,rfl⟩
 have hent:∀(args:Array Value) (w:World),(callFunc fc args).run Tryz.prog w=.ok (.enter fc args) w:=fun _ _=>by rw[hfc];kernel_rfl
 have cA:=fun(f t:Int) (v:Value) (O:List Sp) (wx:World) (h:OutB w wx (w.heap.size+1) v O) (hn:O.length≤1000)=>cbAdd_any f t (w.heap.size+1) v O w wx h hn
 rw[← hfc]at cA;have CA:=qh cA
 clear cA;have h0:OutB w ((w.alloc (.cells #[] 84)).alloc (.cells #[.slice (some ⟨w.heap.size,0,none⟩) 0 0] 76)) (w.heap.size+1) (.slice (some ⟨w.heap.size,0,none⟩) 0 0) []:=by
  refine⟨own_up (World.ownsRow_lit (base:=w.heap.size) (e:=84) (size:=2) w #[] 0 (Nat.le_refl _) (by simp[maxLen]) rfl) (Up.alloc _ _),?_,by simp[Value.ownBlock],by omega,(Up.alloc _ _).allocs _⟩
  have:=Bx.new (w.alloc (.cells #[] 84)) #[.slice (some ⟨w.heap.size,0,none⟩) 0 0] 76
  simpa using this
 go_enter Tryz.func118,Tryz.ntmps118
 go_wp2_with fail
 rw[show Value.func (.func 170) #[] #[.pointer (some ⟨w.heap.size+1,0,none⟩)]=Value.func (.func fc) #[] #[.pointer (some ⟨w.heap.size+1,0,none⟩)] by rw[hfc]]
 generalize (w.alloc (.cells #[] 84)).alloc (.cells #[.slice (some ⟨w.heap.size,0,none⟩) 0 0] 76)=w2 at *
 clear hfc;obtain⟨bo,hbo⟩:∃z,z=w.heap.size+1:=⟨_,rfl⟩
 rw[← hbo]at h0 CA ⊢
 clear hbo;go_loopw [9,10,11,12,13,20] (fun lw _ _ _ _ i wr=>∃(k:Nat) (lv:Int) (v:Value),k≤l.length∧i=.int .i64 k∧lw=.int .i64 lv∧Hid (k=0→lv=0)∧OutB w wr bo v (cbT tl m l p k)) (fun _ _ _ _ _ i _=>l.length-(intOf i).toNat)
 case atStart=>exact⟨0,0,_,Nat.zero_le _,rfl,rfl,qh (fun _=>rfl),h0⟩
 case round =>
  clear h0;obtain⟨k,lv,v,hk,rfl,rfl,hlv,ho⟩:=hrel
  have hOl:=cbT_len tl m l p k
  by_cases hlt:k<l.length
  ·obtain⟨b,off,d,rfl,-,-,hd,q0,q1,q2⟩:=(hr.up ho.up hhi).i3 hlt
   have HD:=qh hd
   have hsd:syB m d=true:=HST.out d (List.mem_of_getElem? hd)
   clear hd;simp only[syB,spanB,dayB,Bool.and_eq_true,inB_iff,decide_eq_true_eq]at hsd
   obtain⟨da,db,dd⟩:=d
   simp only[]at *;obtain⟨md,rfl,hmd⟩:∃z:Nat,da=(z:Int)∧z<m:=⟨da.toNat,by omega,by omega⟩
   have bd:0≤db∧db≤dd∧dd≤730499:=by omega
   clear hsd;have HGT:=qh (gpT_s (ws:=tl) (m:=m) (p:=p) HD.out (a:=md) rfl)
   have bf:=HW.out md p
   obtain⟨r,cr,t0,t1⟩:=HM.out md hmd
   have t2:=t1 p hp
   obtain⟨ff,hff⟩:∃z,z=fw tl m md p:=⟨_,rfl⟩
   rw[← hff]at HGT bf t2;clear hff t1;have v1:=Up.alloc wr (.cells #[.int .i64 (md:Int),.int .i64 db,.int .i64 dd] 172)
   have t0':=(ho.up.trans v1).cell t0
   have t2':=(ho.up.trans v1).cell t2
   have hS:=Bx.new wr #[.int .i64 (md:Int),.int .i64 db,.int .i64 dd] 172
   have hbk:=ho.bk
   have hbs:wr.heap.size≠bo:=by have:=ho.box.lt;omega
   obtain⟨bs,hbse⟩:∃z,z=wr.heap.size:=⟨_,rfl⟩
   go_upto_if 34 with fail
   rw[← hbse]at hS hbk hbs ⊢
   replace ho:=ho.ups v1;generalize wr.alloc (.cells #[.int .i64 (md:Int),.int .i64 db,.int .i64 dd] 172)=W1 at *
   clear v1 q0 q1 q2 t0 t2 t0' t2' hbse;go_cut [9,13] from 21 to 76 (fun lw _ wx=>∃(Z:World),Z=wx∧lw=.int .i64 (gpF tl m l p k)∧OutB w Z bo v (cbT tl m l p k)∧Bx Z bs [.int .i64 (md:Int),.int .i64 db,.int .i64 dd])
   case first =>
    rcases Nat.eq_zero_or_pos k with k0|k0
    ·have HL:=qh (hlv.out k0)
     have HK:=qh k0
     have hd0:¬ 0<k:=by omega
     clear k0;go_wp2_with fail
     go_meet
     exact⟨_,rfl,by rw[HL.out,HK.out];rfl,ho,hS⟩
    ·obtain⟨q,hkq⟩:∃q,k=q+1:=⟨k-1,by omega⟩
     have hql:q<l.length:=by omega
     have hwr:IntKind.i64.wrap ((k:Int)-1)=(q:Int):=by rw[IntWalk.i64_in _ (by omega)];omega
     have hk1:(0:Int)<(k:Int):=by omega
     obtain⟨b',off',x,hbo',-,-,hx,p0,p1,p2⟩:=(hr.up ho.up hhi).i3 hql
     cases hbo'
     have hsx:syB m x=true:=HST.out x (List.mem_of_getElem? hx)
     simp only[syB,spanB,dayB,Bool.and_eq_true,inB_iff,decide_eq_true_eq]at hsx
     obtain⟨xa,xb,xd⟩:=x
     simp only[]at *;obtain⟨mx,rfl,hmx⟩:∃z:Nat,xa=(z:Int)∧z<m:=⟨xa.toNat,by omega,by omega⟩
     have bx:0≤xd∧xd≤730499:=by omega
     clear hsx;have HGF:=qh (show gpF tl m l p k=max (xd+1) (xd+fw tl m mx p) by rw[hkq];exact gpF_s hx rfl)
     have HKQ:=qh hkq
     clear hx hkq;have bf2:=HW.out mx p
     obtain⟨r2,cr2,t0,t1⟩:=HM.out mx hmx
     have t2:=t1 p hp
     obtain⟨fx,hfx⟩:∃z,z=fw tl m mx p:=⟨_,rfl⟩
     rw[← hfx]at HGF bf2 t2;clear hfx t1;have v1:=Up.alloc W1 (.cells #[.int .i64 (mx:Int),.int .i64 xb,.int .i64 xd] 172)
     have hX:=Bx.new W1 #[.int .i64 (mx:Int),.int .i64 xb,.int .i64 xd] 172
     go_wp2_with fail
     replace ho:=ho.ups v1;replace hS:=hS.up v1;generalize W1.alloc (.cells #[.int .i64 (mx:Int),.int .i64 xb,.int .i64 xd] 172)=W2 at *
     have T0:=cell_regrown (ho.up.cell t0)
     have T2:=cell_regrown (ho.up.cell t2)
     obtain⟨x0,x1,x2⟩:=hX.c3
     have X0:=cell_regrown x0
     have X2:=cell_regrown x2
     clear x0 x1 x2 t0 t2 v1 p0 p1 p2;refine wp_region_quiet_below (by kernel_rfl) (by kernel_rfl) ?_
     repeat (first|go_big_quiet_step ((fail))|quiet_step ((fail)))
     refine wpQuiet_nil ?_
     intro w3 hw3
     obtain⟨⟨dq,osq⟩,hw3⟩:=hw3
     have v3:Up W2 w3:=by rw[hw3];exact below_regrown _ _ _
     clear hw3 T0 T2 X0 X2;go_wp2_with fail
     go_meet
     exact⟨_,rfl,by rw[HGF.out,show max (xd+1) (xd+fx)=xd+max 1 fx by omega],ho.ups v3,hS.up v3⟩
   case rest =>
   clear ho hS hlv;obtain⟨Z,hZ,rfl,ho,hS⟩:=hcut
   subst hZ;obtain⟨lw,hlw⟩:∃z,z=gpF tl m l p k:=⟨_,rfl⟩
   have HGL:=qh (show gpL tl m l p k=adL lw (min (db-1) (db-ff)) by rw[hlw,← HGT.out];rfl)
   rw[← hlw];have HLW:=qh hlw
   clear hlw;obtain⟨y0,y1,y2⟩:=hS.c3
   go_wp2_with fail
   refine(CA.out lw _ v _ Z ho (by omega)).mono ?_
   rintro e w3 ⟨rfl,v3,ho3,kp3⟩
   rw[← HGL.out]at ho3;obtain⟨hbk3,hS3⟩:=kp3.get hS hbs hbk
   obtain⟨z0,z1,z2⟩:=hS3.c3
   have hgl1:(gpL tl m l p k).length≤1:=by unfold gpL;split<;>simp
   obtain⟨bb,hbb⟩:∃b,((md:Int)==(p:Int))=b:=⟨_,rfl⟩
   have HS1:=qh (show stL1 l p k=if bb=true then [(db,dd)] else [] by simp only[stL1,HD.out];rw[← hbb];simp)
   have HLS:Hid (cbT tl m l p (k+1)=cbT tl m l p k++gpL tl m l p k++stL1 l p k):=qh (by simp only[cbT,List.append_assoc])
   have HLL:=qh (show(cbT tl m l p k++gpL tl m l p k).length≤1000 by rw[List.length_append];omega)
   clear ho hS kp3 y0 y1 y2 hbk hgl1 hOl;rcases bb with _|_
   ·go_wp2
    go_roundw
    case rel=>exact⟨k+1,lw,v3,by omega,by go_num,rfl,qh (by omega),by rw[HLS.out,HS1.out];simpa using ho3⟩
    case measure=>simp[intOf];omega
   ·have HAD:=qh (show adL db dd=[(db,dd)] by unfold adL;rw[if_pos bd.2.1])
    go_wp2_with fail
    refine(CA.out db dd v3 _ w3 ho3 HLL.out).mono ?_
    rintro e w4 ⟨rfl,v4,ho4,-⟩
    rw[HAD.out]at ho4;go_wp2;go_roundw
    case rel=>exact⟨k+1,lw,v4,by omega,by go_num,rfl,qh (by omega),by rw[HLS.out,HS1.out];exact ho4⟩
    case measure=>simp[intOf];omega
  ·obtain rfl:k=l.length:=by omega
   have HGE:=qh (gpT_end (ws:=tl) (m:=m) (st:=l) (p:=p))
   go_upto_if 80 with fail
   go_cut [9,15] from 79 to 100 (fun lw _ wx=>∃(Z:World),Z=wx∧lw=.int .i64 (gpF tl m l p l.length)∧OutB w Z bo v (cbT tl m l p l.length))
   case first =>
    rcases Nat.eq_zero_or_pos l.length with k0|k0
    ·have HL:=qh (hlv.out k0)
     have HK:=qh k0
     have hd0:¬ 0<l.length:=by omega
     clear k0;go_wp2_with fail
     go_meet
     exact⟨_,rfl,by rw[HL.out,HK.out];rfl,ho⟩
    ·obtain⟨q,hkq⟩:∃q,l.length=q+1:=⟨l.length-1,by omega⟩
     have hql:q<l.length:=by omega
     have hwr:IntKind.i64.wrap ((l.length:Int)-1)=(q:Int):=by rw[IntWalk.i64_in _ (by omega)];omega
     obtain⟨b',off',x,rfl,-,-,hx,p0,p1,p2⟩:=(hr.up ho.up hhi).i3 hql
     have hsx:syB m x=true:=HST.out x (List.mem_of_getElem? hx)
     simp only[syB,spanB,dayB,Bool.and_eq_true,inB_iff,decide_eq_true_eq]at hsx
     obtain⟨xa,xb,xd⟩:=x
     simp only[]at *;obtain⟨mx,rfl,hmx⟩:∃z:Nat,xa=(z:Int)∧z<m:=⟨xa.toNat,by omega,by omega⟩
     have bx:0≤xd∧xd≤730499:=by omega
     clear hsx;have HGF:=qh (show gpF tl m l p l.length=max (xd+1) (xd+fw tl m mx p) by rw[hkq];exact gpF_s hx rfl)
     have HKQ:=qh hkq
     clear hx hkq;have bf2:=HW.out mx p
     obtain⟨r2,cr2,t0,t1⟩:=HM.out mx hmx
     have t2:=t1 p hp
     obtain⟨fx,hfx⟩:∃z,z=fw tl m mx p:=⟨_,rfl⟩
     rw[← hfx]at HGF bf2 t2;clear hfx t1;have v1:=Up.alloc wr (.cells #[.int .i64 (mx:Int),.int .i64 xb,.int .i64 xd] 172)
     have hX:=Bx.new wr #[.int .i64 (mx:Int),.int .i64 xb,.int .i64 xd] 172
     go_wp2_with fail
     replace ho:=ho.ups v1;generalize wr.alloc (.cells #[.int .i64 (mx:Int),.int .i64 xb,.int .i64 xd] 172)=W2 at *
     have T0:=cell_regrown (ho.up.cell t0)
     have T2:=cell_regrown (ho.up.cell t2)
     obtain⟨x0,x1,x2⟩:=hX.c3
     have X0:=cell_regrown x0
     have X2:=cell_regrown x2
     clear x0 x1 x2 t0 t2 v1 p0 p1 p2;refine wp_region_quiet_below (by kernel_rfl) (by kernel_rfl) ?_
     repeat (first|go_big_quiet_step ((fail))|quiet_step ((fail)))
     refine wpQuiet_nil ?_
     intro w3 hw3
     obtain⟨⟨dq,osq⟩,hw3⟩:=hw3
     have v3:Up W2 w3:=by rw[hw3];exact below_regrown _ _ _
     clear hw3 T0 T2 X0 X2;go_wp2_with fail
     go_meet
     exact⟨_,rfl,by rw[HGF.out,show max (xd+1) (xd+fx)=xd+max 1 fx by omega],ho.ups v3⟩
   case rest =>
   clear ho hlv;obtain⟨Z,hZ,rfl,ho⟩:=hcut
   subst hZ;obtain⟨lw,hlw⟩:∃z,z=gpF tl m l p l.length:=⟨_,rfl⟩
   have HGL:=qh (show cbT tl m l p l.length++adL lw 730499=cbL tl m l p by
    rw[hlw,← HGE.out,gpL_ad];show _=cbT tl m l p l.length++(gpL tl m l p l.length++stL1 l p l.length)
    rw[show stL1 l p l.length=[] by simp[stL1],List.append_nil])
   rw[← hlw];clear hlw HGE;have HDY:Hid (BdS (cbL tl m l p)∧OkS (cbL tl m l p)∧(cbL tl m l p).length≤100000):=qh (by
    have h1:=cbT_dy (ws:=tl) (m:=m) (p:=p) (st:=l) (fun s hs=>by have:=HST.out s hs;simp[syB]at this;exact this.2) (l.length+1)
    have h2:=DyS.bd h1
    exact⟨h2.1,h2.2,Nat.le_trans (cbT_len tl m l p _) (by omega)⟩)
   go_wp2_with fail
   refine(CA.out lw 730499 v _ Z ho (by omega)).mono ?_
   rintro e w3 ⟨rfl,v3,ho3,-⟩
   rw[HGL.out]at ho3;obtain⟨A3,c3,rfl,hc3,hm3,-,-⟩:=own_form ho3.own
   have HU:=qh (unitedA_any A3 (cbL tl m l p) c3 _ _ w3 (Rd.own spC_len ho3.own) (Nat.le_refl _) HDY.out.2.2 HDY.out.1 HDY.out.2.1)
   obtain⟨z0,-⟩:=ho3.box 0 _ rfl
   have u3:=ho3.up
   clear ho ho3 HGL HDY;go_wp2_with (go_at_call 168;refine HU.out.mono ?_;rintro e w4 ⟨v4,rfl,ho4,u4⟩)
   go_ret;exact⟨v4,rfl,own_base ho4 u3.size,u3.trans u4⟩
end Go.Proofs.YtihcmhmanfobcaaGreatDoor
