/- The travels from a place, by the reference: rounds over the ways. -/
import Derived.Test.YtihcmhmanfobcaaGreatDoorVe
import Derived.Test.YtihcmhmanfobcaaGreatDoorVc
import Derived.Deep.RegionHeld3
import Derived.Deep.Cut
import Derived.Deep.DeepCutAuto
import Derived.Test.YtihcmhmanfobcaaGreatDoorVa
set_option maxHeartbeats 16000000
set_option maxRecDepth 100000
namespace Go.Proofs.YtihcmhmanfobcaaGreatDoor
open Go.RowKit Go.Sort
theorem infoI64:(Tryz.prog.info? 2).map (fun i=>(i.zero,i.size,i.bytes))=some (some (.int .i64 0),1,8):=by kernel_rfl
theorem flat_setI(l:List Int)(i:Nat)(z:Int):(l.flatMap intCells).set i (.int .i64 z)=(l.set i z).flatMap intCells:=by
 induction l generalizing i with
 | nil=>rfl
 | cons x l ih=>cases i with
   | zero=>rfl
   | succ i=>simp only[List.flatMap_cons,List.cons_append,List.nil_append,List.set_cons_succ];rw[ih]
theorem own_getI{w:World}{base g n c:Nat}{r:List Int}(h:w.ownsRow base 2 1 (.slice (some ⟨g,0,none⟩) n c) n (r.flatMap intCells))(hl:r.length=n){y:Nat}(hy:y<n):w.cell? ⟨g,y,none⟩=some (.int .i64 (r.getD y 0)):=by
 rw[h.cellAt y (by omega)]
 have h1:r[y]?=some r[y]:=List.getElem?_eq_getElem (by omega)
 have:=flat_get intCells 1 int_len r y _ h1 0 _ rfl
 rw[Nat.mul_one,Nat.add_zero]at this;rw[this,List.getD_eq_getElem?_getD,h1];rfl
theorem own_putI{w:World}{base g n c:Nat}{r:List Int}(h:w.ownsRow base 2 1 (.slice (some ⟨g,0,none⟩) n c) n (r.flatMap intCells))(y:Nat)(z:Int):(w.setCell ⟨g,y,none⟩ (.int .i64 z)).ownsRow base 2 1 (.slice (some ⟨g,0,none⟩) n c) n ((r.set y z).flatMap intCells):=by
 rw[← flat_setI];exact(h.stored y _).1
def LoI(r:List Int):Prop:=∀y,y<r.length→-1≤r.getD y 0
theorem rlx_lo{r:List Int}{x y:Nat}{d:Int}(h:LoI r)(h0:0≤d)(hy:y<r.length):LoI (rlx r x y d):=by
 intro z hz
 rw[rlx_len]at hz;have h1:=h z hz
 unfold rlx;split
 ·rename_i c
  rw[set_getD r y z _ hy];split<;>omega
 ·exact h1
theorem bfW_lo{r:List Int}{w:I3}{n:Nat}(h:LoI r)(hw:0≤w.a∧w.a<n∧0≤w.b∧w.b<n∧w.a≠w.b∧1≤w.d∧w.d≤60)(hr:r.length=n):LoI (bfW r w) :=
 rlx_lo (rlx_lo h (by omega) (by omega)) (by omega) (by rw[rlx_len];omega)
theorem bfR_lo{n:Nat}:∀(ws:List I3) (r:List Int),WaysOk ws n→r.length=n→LoI r→LoI (bfR ws r)
 | [],_,_,_,h=>h
 | w :: ws,r,hw,hr,h=>bfR_lo ws (bfW r w) (fun v hv=>hw v (by simp[hv])) (by rw[bfW_len];exact hr) (bfW_lo h (hw w (by simp)) hr)
theorem bfN_lo{ws:List I3}{n a:Nat}(h:WaysOk ws n)(ha:a<n):∀k,LoI (bfN ws n a k)
 | 0=>by
   intro y hy
   rw[bfN_len]at hy;unfold bfN
   rw[set_getD _ _ _ _ (by simpa using ha)]
   split
   ·omega
   ·rw[List.getD_eq_getElem?_getD,List.getElem?_replicate,if_pos hy];simp
 | k+1=>bfR_lo ws _ h (bfN_len ws n a k) (bfN_lo h ha k)
theorem bfR_step{ws:List I3}{k:Nat}{w:I3}(h:ws[k]?=some w)(r:List Int):bfR (ws.take (k+1)) r=bfW (bfR (ws.take k) r) w:=by
 rw[List.take_succ_eq_append_getElem (List.getElem?_eq_some_iff.1 h).1,(List.getElem?_eq_some_iff.1 h).2];unfold bfR;rw[List.foldl_append];rfl
theorem rlx_no{r:List Int}{x y:Nat}{d:Int}(h:¬ (0≤r.getD x 0∧(r.getD y 0<0∨r.getD x 0+d<r.getD y 0))):rlx r x y d=r:=by unfold rlx;rw[if_neg h]
theorem rlx_yes{r:List Int}{x y:Nat}{d:Int}(h:0≤r.getD x 0∧(r.getD y 0<0∨r.getD x 0+d<r.getD y 0)):rlx r x y d=r.set y (r.getD x 0+d):=by unfold rlx;rw[if_pos h]
theorem l14From_any(s:Sl ByteArray)(t:Sl I3)(a lo hi:Nat)(w:World)(h2:SrI3 w lo hi t)(hn12:s.l.length≤12)(ha:a<s.l.length)(hws:WaysOk t.l s.l.length)(hl40:t.l.length≤40) :
 Calls Tryz.prog 99 #[.agg #[.slice s.A s.l.length s.c,.slice t.A t.l.length t.c],.int .i64 a] w fun e w'=>∃v,e=.returned v∧w'.ownsRow w.heap.size 2 1 v s.l.length ((bf t.l s.l.length a).flatMap intCells)∧Up w w':=by
 obtain⟨A,c,l⟩:=s
 obtain⟨B,ct,ts⟩:=t
 have hr2:=h2.rd
 have hhi:=h2.hhi
 have hn12':l.length≤12:=hn12
 have ha':a<l.length:=ha
 have HW:=qh (show WaysOk ts l.length from hws)
 have hl40':ts.length≤40:=hl40
 clear h2 hn12 ha hws hl40;show Calls _ _ #[.agg #[.slice A l.length c,.slice B ts.length ct],_] _ fun e w'=>∃v,e=.returned v∧w'.ownsRow w.heap.size 2 1 v l.length ((bf ts l.length a).flatMap intCells)∧_
 have u0:=Up.alloc w (.cells #[.slice A l.length c,.slice B ts.length ct] 55)
 have hB:=Bx.new w #[.slice A l.length c,.slice B ts.length ct] 55
 obtain⟨i0,hi0,hz0,hz1,hz2⟩:=info_parts infoI64
 go_enter Tryz.func99,Tryz.ntmps99
 go_wp2_with ((refine wpList_make_full _ rfl _ _ 43 rfl w.heap.size 2 i0 _ 1 Tryz.underlying43 hi0 hz0 hz1 _ _ _ _ l.length rfl rfl rfl rfl ?b2 ?b3 ?b4 ?_))
 all_goals try first|(rw[hz2];omega;done)|(omega;done)|(unfold maxLen;omega;done)|(simp;done)|exact u0.size
 intro w1 hown hg
 generalize (madeCells _ _).toList=xs0 at hown
 have hown':=hown
 obtain⟨_,_,hv0,-,-,hA0,-⟩:=own_form hown
 have hup1:Up w w1:=u0.trans ((Up.refl _).grown hg (fun k h=>by cases h))
 have hB1:Bx w1 w.heap.size [.slice A l.length c,.slice B ts.length ct]:=hB.up ((Up.refl _).grown hg (fun k h=>by cases h))
 clear hg hv0 hA0 hown' hB;obtain⟨g,hgg⟩:∃x,x=w.heap.size+1:=⟨_,rfl⟩
 rw[← hgg]at hown ⊢
 have hgw:w.heap.size≤g:=by omega
 have hgne:w.heap.size≠g:=by omega
 clear hgg u0;generalize hnl:l.length=n at *
 have HN:=qh hnl
 clear hnl;obtain⟨x0,x1⟩:=hB1.c2
 go_wp2;go_loopw [6] (fun i wr=>∃k:Nat,∃xs,k≤n∧i=.int .i64 k∧wr.ownsRow w.heap.size 2 1 (.slice (some ⟨g,0,none⟩) n n) n xs∧xs.take k=(List.replicate k (-1:Int)).flatMap intCells∧Bx wr w.heap.size [.slice A n c,.slice B ts.length ct]∧Up w wr) (fun i _=>n-(intOf i).toNat)
 case atStart=>exact⟨0,_,Nat.zero_le _,rfl,hown,by simp,hB1,hup1⟩
 case round =>
  obtain⟨k,xs,hk,rfl,hown,hxs,hB2,hup⟩:=hrel
  have HX:=qh hxs
  clear hxs;by_cases hlt:k<n
  ·obtain⟨u0,r0⟩:=own_cell hown (p:=k) (by omega)
   have z0:=hown.frozenAt k
   go_wp2;go_roundw
   case rel=>exact⟨k+1,_,by omega,by go_num,(hown.stored k _).1,by rw[take_set_succ (by rw[hown.1];omega),HX.out,List.replicate_succ',List.flatMap_append];rfl,hB2.other (fun e=>hgne e.symm) _ _,hup.setCell hgw _⟩
   case measure=>simp[intOf];omega
  ·have hkn:k=n:=by omega
   have hx:=HX.out
   rw[hkn,List.take_of_length_le (by rw[hown.1];omega)]at hx
   subst hx;clear HX hkn;obtain⟨u0,r0⟩:=own_cell hown (p:=a) (by omega)
   have z0:=hown.frozenAt a
   obtain⟨x0,x1⟩:=hB2.c2
   have hlen0:(List.replicate n (-1:Int)).length=n:=by simp
   have O0:=qh (own_putI hown a 0)
   have HB3:=qh (hB2.other (b':=g) (fun e=>hgne e.symm) a (.int .i64 0))
   have HU3:=qh (hup.setCell (p:=⟨g,a,none⟩) hgw (.int .i64 0))
   have hal:(a:Int)<n:=by omega
   have ha0:(0:Int)≤a:=by omega
   go_wp2;go_loopw [7,8,9] (fun i u8 u9 wr=>∃j:Nat,j≤n∧i=.int .i64 j∧wr.ownsRow w.heap.size 2 1 (.slice (some ⟨g,0,none⟩) n n) n ((bfN ts n a j).flatMap intCells)∧Bx wr w.heap.size [.slice A n c,.slice B ts.length ct]∧Up w wr) (fun i _ _ _=>n-(intOf i).toNat)
   case atStart=>exact⟨0,Nat.zero_le _,rfl,O0.out,HB3.out,HU3.out⟩
   case round =>
    obtain⟨j,hj,rfl,hown,hB2,hup⟩:=hrel
    obtain⟨x0,x1⟩:=hB2.c2
    by_cases hltj:j<n
    ·go_wp2
     obtain⟨wo,hwo⟩:∃x,x=wr:=⟨_,rfl⟩
     rw[← hwo]at hown hB2 hup x0 x1 ⊢
     clear hwo;go_loopw [8,9] (fun i u9 wr=>∃k:Nat,k≤ts.length∧i=.int .i64 k∧wr.ownsRow w.heap.size 2 1 (.slice (some ⟨g,0,none⟩) n n) n ((bfR (ts.take k) (bfN ts n a j)).flatMap intCells)∧Bx wr w.heap.size [.slice A n c,.slice B ts.length ct]∧Up w wr) (fun i _ _=>ts.length-(intOf i).toNat)
     case atStart=>exact⟨0,Nat.zero_le _,rfl,hown,hB2,hup⟩
     case round =>
      obtain⟨k2,hk2,rfl,hown,hB2,hup⟩:=hrel
      obtain⟨x0,x1⟩:=hB2.c2
      by_cases hlt2:k2<ts.length
      ·obtain⟨b,off,d,rfl,-,-,hd,q0,q1,q2⟩:=(hr2.up hup hhi).i3 hlt2
       have hwd:=HW.out d (List.mem_of_getElem? hd)
       have hwt:WaysOk (ts.take k2) n:=fun v hv=>HW.out v (List.mem_of_mem_take hv)
       obtain⟨r,hrr⟩:∃x,x=bfR (ts.take k2) (bfN ts n a j):=⟨_,rfl⟩
       have hlr:r.length=n:=by rw[hrr,bfR_len,bfN_len]
       have hbr:Bd r 60000:=fun y=>by
        have h1:=bfR_bd (ts.take k2) _ _ hwt (bfN_bd (a:=a) HW.out hl40' j) (by omega) y
        rw[← hrr]at h1;have h2:(ts.take k2).length≤40:=by rw[List.length_take];omega
        omega
       have hlo:LoI r:=by rw[hrr];exact bfR_lo _ _ hwt (bfN_len ts n a j) (bfN_lo HW.out ha' j)
       have HST:=qh (show bfR (ts.take (k2+1)) (bfN ts n a j)=bfW r d by rw[hrr];exact bfR_step hd _)
       rw[← hrr]at hown;clear hrr hd hwt;obtain⟨da,db,dd⟩:=d
       obtain⟨hd1,hd2,hd3,hd4,hd5,hd6,hd7⟩:=hwd
       simp only at hd1 hd2 hd3 hd4 hd5 hd6 hd7 q0 q1 q2 HST
       obtain⟨ma,rfl⟩:∃m:Nat,da=m:=⟨da.toNat,by omega⟩
       obtain⟨mb,rfl⟩:∃m:Nat,db=m:=⟨db.toNat,by omega⟩
       have hma:ma<n:=by omega
       have hmb:mb<n:=by omega
       have HMA:=qh (show bfW r ⟨(ma:Int),(mb:Int),dd⟩=rlx (rlx r ma mb dd) mb ma dd from rfl)
       have v1:=Up.alloc wr (.cells #[.int .i64 (ma:Int),.int .i64 (mb:Int),.int .i64 dd] 232)
       have hX:=Bx.new wr #[.int .i64 (ma:Int),.int .i64 (mb:Int),.int .i64 dd] 232
       have hxg:wr.heap.size≠g:=fun e=>by
        obtain⟨_,_,hv,-,-,hA,-⟩:=own_form hown
        simp only[Value.slice.injEq]at hv
        obtain⟨rfl,-,-⟩:=hv
        obtain⟨g',e2,-,h⟩:=hA (by omega)
        cases e2;omega
       obtain⟨xb,hxb⟩:∃x,x=wr.heap.size:=⟨_,rfl⟩
       rw[← hxb]at hX hxg;go_upto_region 14 with fail
       rw[← hxb];replace hown:=own_up hown v1;replace hB2:=hB2.up v1;replace hup:=hup.trans v1;clear x0 x1 q0 q1 q2 v1;generalize wr.alloc (.cells #[.int .i64 (ma:Int),.int .i64 (mb:Int),.int .i64 dd] 232)=W1 at *
       clear hxb;have hma1:(ma:Int)<n:=by omega
       have hmb1:(mb:Int)<n:=by omega
       have hmm:ma≠mb:=by omega
       obtain⟨ra,hra⟩:∃x,x=r.getD ma 0:=⟨_,rfl⟩
       obtain⟨rb,hrb⟩:∃x,x=r.getD mb 0:=⟨_,rfl⟩
       have ba1:=hlo ma (by omega)
       have ba2:=hbr ma
       have bb1:=hlo mb (by omega)
       have bb2:=hbr mb
       have ca:=own_getI hown hlr (y:=ma) (by omega)
       have cb:=own_getI hown hlr (y:=mb) (by omega)
       rw[← hra]at ba1 ba2 ca;rw[← hrb]at bb1 bb2 cb;have HRA:=qh hra
       have HRB:=qh hrb
       clear hra hrb;obtain⟨r',hr1⟩:∃x,x=rlx r ma mb dd:=⟨_,rfl⟩
       have HR1:=qh hr1
       have hlo1:LoI r':=by rw[hr1];exact rlx_lo hlo (by omega) (by omega)
       have hbr1:Bd r' 60060:=fun y=>by
        have:=rlx_bd (x:=ma) (y:=mb) hbr (by omega) (show 0≤dd by omega) hd7 y
        rw[← hr1]at this;omega
       have hlr1:r'.length=n:=by rw[hr1,rlx_len,hlr]
       clear hr1;obtain⟨y0,y1,y2⟩:=hX.c3
       have Y0:=cell_regrown y0
       have Y1:=cell_regrown y1
       have Y2:=cell_regrown y2
       have CA:=cell_regrown ca
       have CB:=cell_regrown cb
       go_cut [74] (fun bz wx=>∃(Z:World) (bo:Bool),Z=wx∧bz=.bool bo∧bo=decide (0≤ra∧(rb<0∨ra+dd<rb))∧Up W1 Z)
       case first =>
        by_cases k0:0≤ra
        ·by_cases k1:rb<0
         ·have hc:true=decide (0≤ra∧(rb<0∨ra+dd<rb)):=by symm;simp;omega
          have HC:=qh hc
          clear hc;go_wp2_with fail
          refine wp_region_quiet_below (by kernel_rfl) (by kernel_rfl) ?_
          repeat (first|go_big_quiet_step (fail)|quiet_step (fail))
          refine wpQuiet_nil ?_
          intro w2 hw2
          obtain⟨⟨dq,osq⟩,hw2⟩:=hw2
          have hup2:Up W1 w2:=by rw[hw2];exact below_regrown _ _ _
          clear hw2 Y0 Y1 Y2 CA CB;go_wp2_with fail
          go_meet
          exact⟨_,_,rfl,rfl,by first|exact HC.out|(simp;omega),hup2⟩
         by_cases k3:ra+dd<rb
         ·have hc:true=decide (0≤ra∧(rb<0∨ra+dd<rb)):=by symm;simp;omega
          have HC:=qh hc
          clear hc;go_wp2_with fail
          refine wp_region_quiet_below (by kernel_rfl) (by kernel_rfl) ?_
          repeat (first|go_big_quiet_step (fail)|quiet_step (fail))
          refine wpQuiet_nil ?_
          intro w2 hw2
          obtain⟨⟨dq,osq⟩,hw2⟩:=hw2
          have hup2:Up W1 w2:=by rw[hw2];exact below_regrown _ _ _
          clear hw2 Y0 Y1 Y2 CA CB;go_wp2_with fail
          go_meet
          exact⟨_,_,rfl,rfl,by first|exact HC.out|(simp;omega),hup2⟩
         have hc:false=decide (0≤ra∧(rb<0∨ra+dd<rb)):=by symm;simp;omega
         have HC:=qh hc
         clear hc;go_wp2_with fail
         refine wp_region_quiet_below (by kernel_rfl) (by kernel_rfl) ?_
         repeat (first|go_big_quiet_step (fail)|quiet_step (fail))
         refine wpQuiet_nil ?_
         intro w2 hw2
         obtain⟨⟨dq,osq⟩,hw2⟩:=hw2
         have hup2:Up W1 w2:=by rw[hw2];exact below_regrown _ _ _
         clear hw2 Y0 Y1 Y2 CA CB;go_wp2_with fail
         go_meet
         exact⟨_,_,rfl,rfl,by first|exact HC.out|(simp;omega),hup2⟩
        ·have k9:decide (0≤ra)=false:=by simp;omega
         have k8:ra<0:=by omega
         have hc:false=decide (0≤ra∧(rb<0∨ra+dd<rb)):=by symm;simp;omega
         have HC:=qh hc
         clear hc;go_wp2_with fail
         refine wp_region_quiet_below (by kernel_rfl) (by kernel_rfl) ?_
         repeat (first|go_big_quiet_step (fail)|quiet_step (fail))
         refine wpQuiet_nil ?_
         intro w2 hw2
         obtain⟨⟨dq,osq⟩,hw2⟩:=hw2
         have hup2:Up W1 w2:=by rw[hw2];exact below_regrown _ _ _
         clear hw2 Y0 Y1 Y2 CA CB;go_wp2_with fail
         go_meet
         exact⟨_,_,rfl,rfl,by first|exact HC.out|(simp;omega),hup2⟩
       case rest =>
       obtain⟨V1,bo,hV,rfl,hbo,uV⟩:=hcut
       subst hV;have HBO:=qh hbo
       replace hown:=own_up hown uV;replace hX:=hX.up uV;replace hB2:=hB2.up uV;replace hup:=hup.trans uV;clear uV hbo y0 y1 y2 ca cb Y0 Y1 Y2 CA CB;go_upto_if 74 with fail
       go_cut [74] (fun bz wx=>∃Z:World,Z=wx∧bz=.bool bo∧Z.ownsRow w.heap.size 2 1 (.slice (some ⟨g,0,none⟩) n n) n (r'.flatMap intCells)∧Bx Z xb [.int .i64 (ma:Int),.int .i64 (mb:Int),.int .i64 dd]∧Bx Z w.heap.size [.slice A n c,.slice (some ⟨b,off,none⟩) ts.length ct]∧Up w Z)
       case first =>
        cases bo with
        | false =>
          have hr1:r'=r:=by rw[HR1.out];exact rlx_no (by rw[← HRA.out,← HRB.out];have:=HBO.out;simpa using this)
          have HS1:=qh hr1
          clear hr1;go_wp2_with fail
          go_meet
          exact⟨_,rfl,rfl,by rw[HS1.out];exact hown,hX,hB2,hup⟩
        | true =>
          have hcc:(0≤ra∧(rb<0∨ra+dd<rb)):=by have:=HBO.out;simpa using this
          have hr1:r'=r.set mb (ra+dd):=by rw[HR1.out,HRA.out];exact rlx_yes (by rw[← HRA.out,← HRB.out];exact hcc)
          have ba0:0≤ra:=hcc.1
          have HS1:=qh hr1
          clear hr1 hcc;have cs:=own_getI hown hlr (y:=ma) (by omega)
          rw[← HRA.out]at cs;obtain⟨u0,r0⟩:=own_cell hown (p:=mb) (by omega)
          have z0:=hown.frozenAt mb
          obtain⟨y0,y1,y2⟩:=hX.c3
          have hwr:IntKind.i64.wrap (ra+dd)=ra+dd:=IntWalk.i64_in _ (by omega)
          have hX3:=hX.other (b':=g) (fun e=>hxg e.symm) mb (.int .i64 (ra+dd))
          have hB3:=hB2.other (b':=g) (fun e=>hgne e.symm) mb (.int .i64 (ra+dd))
          have hu3:=hup.setCell (p:=⟨g,mb,none⟩) hgw (.int .i64 (ra+dd))
          have ho3:=own_putI hown mb (ra+dd)
          rw[← HS1.out]at ho3;obtain⟨s0,s1,s2⟩:=hX3.c3
          have cs3:(V1.setCell ⟨g,mb,none⟩ (.int .i64 (ra+dd))).cell? ⟨g,ma,none⟩=some (.int .i64 ra):=by go_simp
          have HX3:=qh hX3
          have HB3:=qh hB3
          have HU3:=qh hu3
          have HO3:=qh ho3
          clear hX3 hB3 hu3 ho3;go_wp2_with fail
          go_region_held3 (fun w'=>w'.cell? ⟨xb,0,none⟩=some (.int .i64 (ma:Int))∧w'.cell? ⟨xb,1,none⟩=some (.int .i64 (mb:Int))∧w'.cell? ⟨xb,2,none⟩=some (.int .i64 dd)∧w'.cell? ⟨g,ma,none⟩=some (.int .i64 ra)) (first|exact⟨y0,y1,y2,cs⟩|exact⟨s0,s1,s2,cs3⟩|(rw[hwr];exact⟨s0,s1,s2,cs3⟩)) (fail)
          go_wp2_with fail
          go_meet
          exact⟨_,rfl,rfl,HO3.out,HX3.out,HB3.out,HU3.out.drew⟩
       case rest =>
       obtain⟨W2,hZ,rfl,ho,hx,hb,hu⟩:=hcut
       subst hZ;clear hown hX hB2 hup HBO HRA HRB ba1 ba2 bb1 bb2 hlo hbr hlr;have hown:=ho
       have hX:=hx
       have hB2:=hb
       have hup:=hu
       have hlo:=hlo1
       have hbr:=hbr1
       have hlr:=hlr1
       clear ho hx hb hu hlo1 hbr1 hlr1;go_upto_region 16 with fail
       obtain⟨ra,hra⟩:∃x,x=r'.getD mb 0:=⟨_,rfl⟩
       obtain⟨rb,hrb⟩:∃x,x=r'.getD ma 0:=⟨_,rfl⟩
       have ba1:=hlo mb (by omega)
       have ba2:=hbr mb
       have bb1:=hlo ma (by omega)
       have bb2:=hbr ma
       have ca:=own_getI hown hlr (y:=mb) (by omega)
       have cb:=own_getI hown hlr (y:=ma) (by omega)
       rw[← hra]at ba1 ba2 ca;rw[← hrb]at bb1 bb2 cb;have HRA:=qh hra
       have HRB:=qh hrb
       clear hra hrb;obtain⟨r'',hr1⟩:∃x,x=rlx r' mb ma dd:=⟨_,rfl⟩
       have HR2:=qh hr1
       have hlo1:LoI r'':=by rw[hr1];exact rlx_lo hlo (by omega) (by omega)
       have hbr1:Bd r'' 60120:=fun y=>by
        have:=rlx_bd (x:=mb) (y:=ma) hbr (by omega) (show 0≤dd by omega) hd7 y
        rw[← hr1]at this;omega
       have hlr1:r''.length=n:=by rw[hr1,rlx_len,hlr]
       clear hr1;obtain⟨y0,y1,y2⟩:=hX.c3
       have Y0:=cell_regrown y0
       have Y1:=cell_regrown y1
       have Y2:=cell_regrown y2
       have CA:=cell_regrown ca
       have CB:=cell_regrown cb
       go_cut [116] (fun bz wx=>∃(Z:World) (bo:Bool),Z=wx∧bz=.bool bo∧bo=decide (0≤ra∧(rb<0∨ra+dd<rb))∧Up W2 Z)
       case first =>
        by_cases k0:0≤ra
        ·by_cases k1:rb<0
         ·have hc:true=decide (0≤ra∧(rb<0∨ra+dd<rb)):=by symm;simp;omega
          have HC:=qh hc
          clear hc;go_wp2_with fail
          refine wp_region_quiet_below (by kernel_rfl) (by kernel_rfl) ?_
          repeat (first|go_big_quiet_step (fail)|quiet_step (fail))
          refine wpQuiet_nil ?_
          intro w2 hw2
          obtain⟨⟨dq,osq⟩,hw2⟩:=hw2
          have hup2:Up W2 w2:=by rw[hw2];exact below_regrown _ _ _
          clear hw2 Y0 Y1 Y2 CA CB;go_wp2_with fail
          go_meet
          exact⟨_,_,rfl,rfl,by first|exact HC.out|(simp;omega),hup2⟩
         by_cases k3:ra+dd<rb
         ·have hc:true=decide (0≤ra∧(rb<0∨ra+dd<rb)):=by symm;simp;omega
          have HC:=qh hc
          clear hc;go_wp2_with fail
          refine wp_region_quiet_below (by kernel_rfl) (by kernel_rfl) ?_
          repeat (first|go_big_quiet_step (fail)|quiet_step (fail))
          refine wpQuiet_nil ?_
          intro w2 hw2
          obtain⟨⟨dq,osq⟩,hw2⟩:=hw2
          have hup2:Up W2 w2:=by rw[hw2];exact below_regrown _ _ _
          clear hw2 Y0 Y1 Y2 CA CB;go_wp2_with fail
          go_meet
          exact⟨_,_,rfl,rfl,by first|exact HC.out|(simp;omega),hup2⟩
         have hc:false=decide (0≤ra∧(rb<0∨ra+dd<rb)):=by symm;simp;omega
         have HC:=qh hc
         clear hc;go_wp2_with fail
         refine wp_region_quiet_below (by kernel_rfl) (by kernel_rfl) ?_
         repeat (first|go_big_quiet_step (fail)|quiet_step (fail))
         refine wpQuiet_nil ?_
         intro w2 hw2
         obtain⟨⟨dq,osq⟩,hw2⟩:=hw2
         have hup2:Up W2 w2:=by rw[hw2];exact below_regrown _ _ _
         clear hw2 Y0 Y1 Y2 CA CB;go_wp2_with fail
         go_meet
         exact⟨_,_,rfl,rfl,by first|exact HC.out|(simp;omega),hup2⟩
        ·have k9:decide (0≤ra)=false:=by simp;omega
         have k8:ra<0:=by omega
         have hc:false=decide (0≤ra∧(rb<0∨ra+dd<rb)):=by symm;simp;omega
         have HC:=qh hc
         clear hc;go_wp2_with fail
         refine wp_region_quiet_below (by kernel_rfl) (by kernel_rfl) ?_
         repeat (first|go_big_quiet_step (fail)|quiet_step (fail))
         refine wpQuiet_nil ?_
         intro w2 hw2
         obtain⟨⟨dq,osq⟩,hw2⟩:=hw2
         have hup2:Up W2 w2:=by rw[hw2];exact below_regrown _ _ _
         clear hw2 Y0 Y1 Y2 CA CB;go_wp2_with fail
         go_meet
         exact⟨_,_,rfl,rfl,by first|exact HC.out|(simp;omega),hup2⟩
       case rest =>
       obtain⟨V2,bo,hV,rfl,hbo,uV⟩:=hcut
       subst hV;have HBO:=qh hbo
       replace hown:=own_up hown uV;replace hX:=hX.up uV;replace hB2:=hB2.up uV;replace hup:=hup.trans uV;clear uV hbo y0 y1 y2 ca cb Y0 Y1 Y2 CA CB;cases bo with
       | false =>
         have hr1:r''=r':=by rw[HR2.out];exact rlx_no (by rw[← HRA.out,← HRB.out];have:=HBO.out;simpa using this)
         have HS1:=qh hr1
         clear hr1;rw[← HS1.out]at hown;go_wp2;go_roundw
         case rel=>exact⟨k2+1,by omega,by go_num,by rw[HST.out,HMA.out,← HR1.out,← HR2.out];exact hown,hB2,hup⟩
         case measure=>simp[intOf];omega
       | true =>
         have hcc:(0≤ra∧(rb<0∨ra+dd<rb)):=by have:=HBO.out;simpa using this
         have hr1:r''=r'.set ma (ra+dd):=by rw[HR2.out,HRA.out];exact rlx_yes (by rw[← HRA.out,← HRB.out];exact hcc)
         have ba0:0≤ra:=hcc.1
         have HS1:=qh hr1
         clear hr1 hcc;have cs:=own_getI hown hlr (y:=mb) (by omega)
         rw[← HRA.out]at cs;obtain⟨u0,r0⟩:=own_cell hown (p:=ma) (by omega)
         have z0:=hown.frozenAt ma
         obtain⟨y0,y1,y2⟩:=hX.c3
         have hwr:IntKind.i64.wrap (ra+dd)=ra+dd:=IntWalk.i64_in _ (by omega)
         have hX3:=hX.other (b':=g) (fun e=>hxg e.symm) ma (.int .i64 (ra+dd))
         have hB3:=hB2.other (b':=g) (fun e=>hgne e.symm) ma (.int .i64 (ra+dd))
         have hu3:=hup.setCell (p:=⟨g,ma,none⟩) hgw (.int .i64 (ra+dd))
         have ho3:=own_putI hown ma (ra+dd)
         rw[← HS1.out]at ho3;obtain⟨s0,s1,s2⟩:=hX3.c3
         have cs3:(V2.setCell ⟨g,ma,none⟩ (.int .i64 (ra+dd))).cell? ⟨g,mb,none⟩=some (.int .i64 ra):=by go_simp
         have HX3:=qh hX3
         have HB3:=qh hB3
         have HU3:=qh hu3
         have HO3:=qh ho3
         clear hX3 hB3 hu3 ho3;go_wp2_with fail
         go_region_held3 (fun w'=>w'.cell? ⟨xb,0,none⟩=some (.int .i64 (ma:Int))∧w'.cell? ⟨xb,1,none⟩=some (.int .i64 (mb:Int))∧w'.cell? ⟨xb,2,none⟩=some (.int .i64 dd)∧w'.cell? ⟨g,mb,none⟩=some (.int .i64 ra)) (first|exact⟨y0,y1,y2,cs⟩|exact⟨s0,s1,s2,cs3⟩|(rw[hwr];exact⟨s0,s1,s2,cs3⟩)) (fail)
         go_wp2;go_roundw
         case rel=>exact⟨k2+1,by omega,by go_num,by rw[HST.out,HMA.out,← HR1.out,← HR2.out];exact HO3.out,HB3.out,HU3.out.drew⟩
         case measure=>simp[intOf];omega
      ·go_wp2
       go_roundw
       case rel=>exact⟨j+1,by omega,by go_num,by rw[show k2=ts.length by omega,List.take_of_length_le (Nat.le_refl _)]at hown;exact hown,hB2,hup⟩
       case measure=>simp[intOf];omega
    ·go_wp2
     go_ret;have hjn:j=n:=by omega
     rw[hjn]at hown;rw[HN.out];exact⟨_,rfl,hown,hup⟩
theorem ldB_yes{l:List ByteArray}{ws:List I3}(h:ldB l ws=true):1≤l.length∧l.length≤12∧ws.length≤40∧WaysOk ws l.length:=by
 simp only[ldB,Bool.and_eq_true,decide_eq_true_eq,List.all_eq_true]at h
 obtain⟨⟨h1,h2,h3⟩,-,h4⟩:=h
 refine⟨h1,h2,h3,fun w hw=>?_⟩
 have:=h4 w hw
 simp only[wyB,Bool.and_eq_true,inB_iff,bne_iff_ne,ne_eq]at this
 obtain⟨a,b,c,d⟩:=this
 exact⟨by omega,by omega,by omega,by omega,c,d.1,d.2⟩
theorem syB_yes{n:Nat}{s:I3}(h:syB n s=true):0≤s.a∧s.a<n∧0≤s.b∧s.b≤s.d∧s.d≤730499:=by
 simp only[syB,spanB,dayB,Bool.and_eq_true,inB_iff,decide_eq_true_eq]at h
 obtain⟨a,b,c,d⟩:=h
 exact⟨by omega,by omega,by omega,by omega,by omega⟩
theorem itB_land{l:List ByteArray}{ws st:List I3}(h:ldB l ws=false):itB l ws st=false:=by simp[itB,h]
theorem itB_long{l:List ByteArray}{ws st:List I3}(h:¬ st.length≤40):itB l ws st=false:=by simp[itB,h]
theorem itB_no{l:List ByteArray}{ws st:List I3}{k:Nat}{d:I3}(hd:st[k]?=some d)(h:stQ ws l.length st k d=false):itB l ws st=false:=by simp[itB,allK_no hd h]
theorem itB_end{l:List ByteArray}{ws st:List I3}(h0:ldB l ws=true)(h1:st.length≤40)(h:∀k d,k<st.length→st[k]?=some d→stQ ws l.length st k d=true):itB l ws st=true:=by simp[itB,h0,h1,allK_end h]
theorem gapB_bf{ws:List I3}{n:Nat}{s x:I3}(h:WaysOk ws n)(hl:ws.length≤40)(hn:n≤12){ma mb:Nat}(hx:x.a=ma)(hs:s.a=mb)(ha:ma<n)(hb:mb<n) :
 gapB ws n s x=(!decide ((bf ws n ma).getD mb 0<0) && !decide (s.b<x.d+max 1 ((bf ws n ma).getD mb 0))):=by
 unfold gapB
 rw[hx,hs,show((ma:Int)).toNat=ma by omega,show((mb:Int)).toNat=mb by omega]
 rcases bf_fw h hl hn ha hb with⟨h1,h2⟩|⟨h1,h2,h3⟩
 ·rw[h2,decide_eq_true h1];simp
 ·rw[← h2]at h3 ⊢
  have e0:decide ((bf ws n ma).getD mb 0<0)=false:=decide_eq_false (by omega)
  rw[decide_eq_true h3,e0,Bool.true_and,Bool.not_false,Bool.true_and];by_cases c:s.b<x.d+max 1 ((bf ws n ma).getD mb 0)
  ·rw[decide_eq_true c,Bool.not_true,Bool.and_eq_false_iff,decide_eq_false_iff_not,decide_eq_false_iff_not];omega
  ·rw[decide_eq_false c,Bool.not_false,Bool.and_eq_true,decide_eq_true_eq,decide_eq_true_eq];omega
theorem specIsItinerary_any(s:Sl ByteArray)(t:Sl I3)(v:Sl I3)(lo hi:Nat)(w:World)(h:SrSt w lo hi s)(h2:SrI3 w lo hi t)(h3:SrI3 w lo hi v) :
 Calls Tryz.prog 180 #[.agg #[.slice s.A s.l.length s.c,.slice t.A t.l.length t.c],.slice v.A v.l.length v.c] w fun e w'=>e=.returned (.bool (itB s.l t.l v.l))∧Up w w':=by
 obtain⟨V,cv,st⟩:=v
 have hr:=h3.rd
 have hhi:=h3.hhi
 have hn:st.length≤2000000:=h3.len
 have hpl:s.l.length≤2000000:=h.len
 have H:=qh h
 have H2:=qh h2
 clear h h2 h3;have u0:=Up.alloc w (.cells #[.slice s.A s.l.length s.c,.slice t.A t.l.length t.c] 55)
 have hB:=Bx.new w #[.slice s.A s.l.length s.c,.slice t.A t.l.length t.c] 55
 have cL:=qh (specIsLand_any s t lo hi _ (H.out.up u0) (H2.out.up u0))
 show Calls _ _ #[_,.slice V st.length cv] _ fun e w'=>e=.returned (.bool (itB s.l t.l st))∧_
 obtain⟨bl,hbl⟩:∃x,x=ldB s.l t.l:=⟨_,rfl⟩
 rw[← hbl]at cL;have HBL:=qh hbl
 clear hbl;rcases bl with _|_
 ·go_enter Tryz.func180,Tryz.ntmps180
  go_wp2_with (go_at_call 225;refine cL.out.mono ?_;rintro e w1 ⟨rfl,hup⟩)
  go_ret;exact⟨ret_bool (itB_land HBL.out.symm).symm,u0.trans hup⟩
 by_cases h40:st.length≤40
 ·obtain⟨l1,l2,l3,lw⟩:=ldB_yes HBL.out.symm
  have LW:=qh lw
  clear lw;go_enter Tryz.func180,Tryz.ntmps180
  go_wp2_with (go_at_call 225;refine cL.out.mono ?_;rintro e w1 ⟨rfl,hup⟩)
  have hB1:=hB.up hup
  have u1:=u0.trans hup
  clear cL hB hup u0;go_loopw [5,6] (fun i u6 wr=>∃k:Nat,k≤st.length∧i=.int .i64 k∧(∀j d,j<k→st[j]?=some d→stQ t.l s.l.length st j d=true)∧Up w1 wr) (fun i _ _=>st.length-(intOf i).toNat)
  case atStart=>exact⟨0,Nat.zero_le _,rfl,fun j d h=>absurd h (by omega),Up.refl _⟩
  case round =>
   obtain⟨k,hk,rfl,ha,hup⟩:=hrel
   have HA:=qh ha
   clear ha;by_cases hlt:k<st.length
   ·obtain⟨b,off,d,rfl,-,-,hd,q0,q1,q2⟩:=((hr.up u1 hhi).up hup (Nat.le_trans hhi u1.size)).i3 hlt
    have HD:=qh hd
    clear hd;obtain⟨x0,x1⟩:=(hB1.up hup).c2
    have X0:=cell_regrown x0
    have X1:=cell_regrown x1
    have Q0:=cell_regrown q0
    have Q1:=cell_regrown q1
    have Q2:=cell_regrown q2
    obtain⟨bs,hbs⟩:∃x,x=syB s.l.length d:=⟨_,rfl⟩
    have cS:∀dd os,Calls Tryz.prog 226 #[.agg #[.slice s.A s.l.length s.c,.slice t.A t.l.length t.c],d.val] (grow (redrawn wr dd) os) fun e w''=>e=.returned (.bool bs)∧∃p:Regrown,w''=grow (redrawn wr p.d) p.os :=
     fun dd os=>by rw[hbs];exact Calls.regrown_of (l15Stay_any s t d _ hpl)
    have HBS:=qh hbs
    clear hbs;rcases bs with _|_
    ·go_wp2_with fail
     refine wp_region_quiet_below (by kernel_rfl) (by kernel_rfl) ?_
     repeat (first|go_big_quiet_step ((go_at_call 226;exact cS _ _))|quiet_step ((go_at_call 226;exact cS _ _)))
     refine wpQuiet_nil ?_
     intro w2 hw2
     obtain⟨⟨dq,osq⟩,hw2⟩:=hw2
     have hup2:Up wr w2:=by rw[hw2];exact below_regrown _ _ _
     clear hw2 X0 X1 Q0 Q1 Q2 cS;go_wp2;go_ret;exact⟨ret_bool (itB_no HD.out (by unfold stQ;rw[← HBS.out];rfl)).symm,u1.trans (hup.trans hup2)⟩
    rcases Nat.eq_zero_or_pos k with hk0|hk0
    ·have hgt:¬ 0<k:=by omega
     have HK0:=qh hk0
     clear hk0;go_wp2_with fail
     refine wp_region_quiet_below (by kernel_rfl) (by kernel_rfl) ?_
     repeat (first|go_big_quiet_step ((go_at_call 226;exact cS _ _))|quiet_step ((go_at_call 226;exact cS _ _)))
     refine wpQuiet_nil ?_
     intro w2 hw2
     obtain⟨⟨dq,osq⟩,hw2⟩:=hw2
     have hup2:Up wr w2:=by rw[hw2];exact below_regrown _ _ _
     clear hw2 X0 X1 Q0 Q1 Q2 cS;go_wp2;go_roundw
     case rel=>exact⟨k+1,by omega,by go_num,allK_step HA.out HD.out (by unfold stQ;rw[← HBS.out,HK0.out];rfl),hup.trans hup2⟩
     case measure=>simp[intOf];omega
    obtain⟨q,hkq⟩:∃q,k=q+1:=⟨k-1,by omega⟩
    have hql:q<st.length:=by omega
    have hwr:IntKind.i64.wrap ((k:Int)-1)=(q:Int):=by rw[IntWalk.i64_in _ (by omega)];omega
    obtain⟨b',off',d',hbo,-,-,hd',p0,p1,p2⟩:=((hr.up u1 hhi).up hup (Nat.le_trans hhi u1.size)).i3 hql
    cases hbo;have hsy':syB s.l.length d'=true:=by
     have:=HA.out q d' (by omega) hd'
     unfold stQ at this;rw[Bool.and_eq_true]at this;exact this.1
    have HD':=qh hd'
    have HKQ:=qh hkq
    clear hd' hkq;obtain⟨g1,g2,g3,g4,g5⟩:=syB_yes HBS.out.symm
    obtain⟨e1,e2,e3,e4,e5⟩:=syB_yes hsy'
    obtain⟨da,db,dd0⟩:=d
    obtain⟨xa,xb,xd⟩:=d'
    simp only at g1 g2 g3 g4 g5 e1 e2 e3 e4 e5 q0 q1 q2 p0 p1 p2 Q0 Q1 Q2 cS HBS HD HD'
    obtain⟨mb,rfl⟩:∃m:Nat,da=m:=⟨da.toNat,by omega⟩
    obtain⟨ma,rfl⟩:∃m:Nat,xa=m:=⟨xa.toNat,by omega⟩
    have hma:ma<s.l.length:=by omega
    have hmb:mb<s.l.length:=by omega
    obtain⟨zz,hzz⟩:∃z,z=(bf t.l s.l.length ma).getD mb 0:=⟨_,rfl⟩
    have hzb:zz≤57600:=by
     have:=bfN_bd (a:=ma) LW.out l3 s.l.length mb
     rw[hzz];unfold bf;omega
    have HG:=qh (show stQ t.l s.l.length st k ⟨(mb:Int),db,dd0⟩=(!decide (zz<0) && !decide (db<xd+max 1 zz)) by
     unfold stQ
     rw[← HBS.out,HKQ.out,pv_s HD'.out,hzz,Bool.true_and];exact gapB_bf LW.out l3 l2 rfl rfl hma hmb)
    have HZZ:=qh hzz
    clear hzz hsy';go_wp2_with fail
    refine wp_region_quiet_below (by kernel_rfl) (by kernel_rfl) ?_
    repeat (first|go_big_quiet_step ((go_at_call 226;exact cS _ _))|quiet_step ((go_at_call 226;exact cS _ _)))
    refine wpQuiet_nil ?_
    intro w2 hw2
    obtain⟨⟨dq,osq⟩,hw2⟩:=hw2
    have hup2:Up wr w2:=by rw[hw2];exact below_regrown _ _ _
    clear hw2 X0 X1 Q0 Q1 Q2 cS;have U2:=hup.trans hup2
    replace x0:=hup2.cell x0;replace x1:=hup2.cell x1;replace q0:=hup2.cell q0;replace q1:=hup2.cell q1;replace p0:=hup2.cell p0;replace p2:=hup2.cell p2;have hdr:Up w2 w2.drew:=(Up.refl _).drew
    have HF:=qh (fun(wx:World) (ux:Up w2 wx)=>l14From_any s t ma lo hi wx (H2.out.up (u1.trans (U2.trans ux))) l2 hma LW.out l3)
    clear hup2 p1 q2;have hmbi:(mb:Int)<s.l.length:=by omega
    go_wp2_with fail
    go_region_law ((go_simp;go_at_call 99;refine(HF.out _ (by first|exact Up.refl _|exact hdr)).mono ?_;rintro e w3 ⟨vv,rfl,ho,hu3⟩;obtain⟨A3,c3,rfl,hc3,hm3,hA3,-⟩:=own_form ho;obtain⟨g3',rfl,-,-⟩:=hA3 (by omega);have hz3:=own_getI ho (by unfold bf;rw[bfN_len]) (y:=mb) hmb;rw[← HZZ.out]at hz3;have q0':=hu3.cell q0;have q1':=hu3.cell q1;have p2':=hu3.cell p2;have U3:=qh (U2.trans ((by first|exact hu3|exact hdr.trans hu3:Up w2 w3)))))
    all_goals
     have C1:=cell_regrown q1'
     have C2:=cell_regrown p2'
     clear x0 x1 q0 q1 p0 p2 q0' q1' p2' hz3 hdr ho hu3 HF;go_wp2_with fail
     rcases Int.lt_or_le zz 0 with hz0|hz0
     ·refine wp_region_quiet_below (by kernel_rfl) (by kernel_rfl) ?_
      repeat (first|go_big_quiet_step (fail)|quiet_step (fail))
      refine wpQuiet_nil ?_
      intro w4 hw4
      obtain⟨⟨dq,osq⟩,hw4⟩:=hw4
      have hup4:Up w3 w4:=by rw[hw4];exact below_regrown _ _ _
      clear hw4 C1 C2;go_wp2;go_ret;exact⟨ret_bool (itB_no HD.out (by rw[HG.out];simp;omega)).symm,u1.trans (U3.out.trans hup4)⟩
     ·have hz1:¬ zz<0:=by omega
      have hz2:decide (zz<0)=false:=by simp;omega
      refine wp_region_quiet_below (by kernel_rfl) (by kernel_rfl) ?_
      repeat (first|go_big_quiet_step (fail)|quiet_step (fail))
      refine wpQuiet_nil ?_
      intro w4 hw4
      obtain⟨⟨dq,osq⟩,hw4⟩:=hw4
      have hup4:Up w3 w4:=by rw[hw4];exact below_regrown _ _ _
      clear hw4 C1 C2;go_wp2
      ·have h1:db<xd+max 1 zz:=by assumption
       go_ret;exact⟨ret_bool (itB_no HD.out (by rw[HG.out];simp;omega)).symm,u1.trans (U3.out.trans hup4)⟩
      ·have h1:¬ db<xd+max 1 zz:=by omega
       go_roundw
       case rel=>exact⟨k+1,by omega,by go_num,allK_step HA.out HD.out (by rw[HG.out];simp;omega),U3.out.trans hup4⟩
       case measure=>simp[intOf];omega
   ·have HE:=qh (itB_end (l:=s.l) (ws:=t.l) HBL.out.symm h40 (fun j d hj hd=>HA.out j d (by omega) hd))
    go_wp2;go_ret;exact⟨ret_bool HE.out.symm,u1.trans hup⟩
 ·go_enter Tryz.func180,Tryz.ntmps180
  go_wp2_with (go_at_call 225;refine cL.out.mono ?_;rintro e w1 ⟨rfl,hup⟩)
  go_ret;exact⟨ret_bool (itB_long h40).symm,u0.trans hup⟩
def MtR(w:World)(v:Value)(n:Nat)(f:Nat→Nat→Int):Prop :=
 ∃g c,v=.slice (some ⟨g,0,none⟩) n c∧∀i,i<n→∃r cr,w.cell? ⟨g,i,none⟩=some (.slice (some ⟨r,0,none⟩) n cr)∧∀j,j<n→w.cell? ⟨r,j,none⟩=some (.int .i64 (f i j))
theorem MtR.up{w w':World}{v:Value}{n:Nat}{f:Nat→Nat→Int}(h:MtR w v n f)(u:Up w w'):MtR w' v n f:=by
 obtain⟨g,c,e,h⟩:=h
 exact⟨g,c,e,fun i hi=>by obtain⟨r,cr,h1,h2⟩:=h i hi;exact⟨r,cr,u.cell h1,fun j hj=>u.cell (h2 j hj)⟩⟩
theorem areStays_any(s:Sl ByteArray)(t:Sl I3)(st:Sl I3)(v:Value)(lo hi:Nat)(w:World)(hn:s.l.length≤12)(hws:WaysOk t.l s.l.length)(h:SrI3 w lo hi st)(hM:MtR w v s.l.length (fw t.l s.l.length)) :
 Calls Tryz.prog 238 #[.agg #[.slice s.A s.l.length s.c,.slice t.A t.l.length t.c],v,.slice st.A st.l.length st.c] w fun e w'=>e=.returned (.bool (decide (st.l.length≤40) && allK st.l (stQ t.l s.l.length st.l)))∧Up w w':=by
 obtain⟨A,c,l⟩:=st
 have hln:l.length≤2000000:=h.len
 have hr:RdI3 w lo hi A l:=h.rd
 have hhi:=h.hhi
 clear h;show Calls _ _ #[_,_,.slice A l.length c] _ fun e w'=>e=.returned (.bool (decide (l.length≤40) && allK l (stQ t.l s.l.length l)))∧_
 obtain⟨g,cg,rfl,hM⟩:=hM
 have HM:=qh hM
 have HWS:=qh hws
 clear hM hws;have u0:=Up.alloc w (.cells #[.slice s.A s.l.length s.c,.slice t.A t.l.length t.c] 55)
 have hB:=Bx.new w #[.slice s.A s.l.length s.c,.slice t.A t.l.length t.c] 55
 obtain⟨n,hnn⟩:∃n,n=s.l.length:=⟨_,rfl⟩
 have cS:=fun(d:I3) wx=>isStay_any s t d wx (by omega)
 have CS:=qh cS
 clear cS;go_enter Tryz.func238,Tryz.ntmps238
 go_wp2;generalize w.alloc (.cells #[.slice s.A s.l.length s.c,.slice t.A t.l.length t.c] 55)=w0 at *
 go_loopw [7,8,9,10,13] (fun u7 u8 u9 u10 i wr=>∃k:Nat,k≤l.length∧i=.int .i64 k∧(∀j d,j<k→l[j]?=some d→stQ t.l s.l.length l j d=true)∧Up w0 wr) (fun _ _ _ _ i _=>l.length-(intOf i).toNat)
 case atStart=>exact⟨0,Nat.zero_le _,rfl,fun j d h=>absurd h (by omega),Up.refl _⟩
 case round =>
  obtain⟨k,hk,rfl,ha,hup⟩:=hrel
  have HA:=qh ha
  clear ha;obtain⟨x0,x1⟩:=(hB.up hup).c2
  by_cases hlt:k<l.length
  ·obtain⟨b,off,d,rfl,-,-,hd,q0,q1,q2⟩:=((hr.up u0 hhi).up hup (Nat.le_trans hhi u0.size)).i3 hlt
   have HD:=qh hd
   clear hd;have v1:=Up.alloc wr (.cells #[.int .i64 d.a,.int .i64 d.b,.int .i64 d.d] 172)
   have hX:=Bx.new wr #[.int .i64 d.a,.int .i64 d.b,.int .i64 d.d] 172
   obtain⟨z0,z1⟩:=(hB.up (hup.trans v1)).c2
   obtain⟨y0,y1,y2⟩:=hX.c3
   obtain⟨bs,hbs⟩:∃x,x=syB s.l.length d:=⟨_,rfl⟩
   have c1:=CS.out d
   simp only[← hbs]at c1
   have C1:=qh c1
   have HBS:=qh hbs
   clear c1 hbs;rcases bs with _|_
   ·go_wp2_with (go_at_call 274;refine(C1.out _).mono ?_;rintro e w2 ⟨rfl,hup2⟩)
    go_ret;exact⟨ret_bool (by rw[allK_no HD.out (show stQ t.l s.l.length l k d=false by unfold stQ;rw[← HBS.out];rfl)];simp),u0.trans (hup.trans (v1.trans hup2))⟩
   rcases Nat.eq_zero_or_pos k with hk0|hk0
   ·have hk2:((k:Int)==0)=true:=by simp[hk0]
    have HK0:=qh hk0
    clear hk0;go_wp2_with (go_at_call 274;refine(C1.out _).mono ?_;rintro e w2 ⟨rfl,hup2⟩)
    go_roundw
    case rel=>exact⟨k+1,by omega,by go_num,allK_step HA.out HD.out (by unfold stQ;rw[← HBS.out,HK0.out];rfl),hup.trans (v1.trans hup2)⟩
    case measure=>simp[intOf];omega
   obtain⟨q,hkq⟩:∃q,k=q+1:=⟨k-1,by omega⟩
   have hql:q<l.length:=by omega
   have hwr:IntKind.i64.wrap ((k:Int)-1)=(q:Int):=by rw[IntWalk.i64_in _ (by omega)];omega
   obtain⟨b',off',x,hbo,-,-,hd',p0,p1,p2⟩:=((hr.up u0 hhi).up (hup.trans v1) (Nat.le_trans hhi u0.size)).i3 hql
   cases hbo;have HPX:=qh (HA.out q x (by omega) hd')
   have HX':=qh hd'
   have HKQ:=qh hkq
   have hk1:¬ k=0:=by omega
   clear hd' hkq;have hsd:syB s.l.length d=true:=HBS.out.symm
   have hsx:syB s.l.length x=true:=by have:=HPX.out;simp only[stQ,Bool.and_eq_true]at this;exact this.1
   simp only[syB,spanB,dayB,Bool.and_eq_true,inB_iff,decide_eq_true_eq]at hsd hsx
   obtain⟨md,hmd,hmdl⟩:∃m:Nat,d.a=(m:Int)∧m<s.l.length:=⟨d.a.toNat,by omega,by omega⟩
   obtain⟨mx,hmx,hmxl⟩:∃m:Nat,x.a=(m:Int)∧m<s.l.length:=⟨x.a.toNat,by omega,by omega⟩
   have hxd:0≤x.d∧x.d≤730499:=by omega
   have hdb:0≤d.b∧d.b≤730499:=by omega
   obtain⟨ff,hff⟩:∃z,z=fw t.l s.l.length mx md:=⟨_,rfl⟩
   have hfb:0≤ff∧ff≤1000000:=by rw[hff];exact fw_bd HWS.out _ _ _
   have HGAP:=qh (show gapB t.l s.l.length d x=(decide (ff<1000000) && (decide (x.d<d.b) && decide (x.d+ff≤d.b))) by unfold gapB;rw[hmx,hmd,hff];rfl)
   obtain⟨r,cr,t0,t1⟩:=HM.out mx hmxl
   have t2:=t1 md hmdl
   rw[← hff]at t2;have HMD:=qh hmd
   have HMX:=qh hmx
   have t0':=(u0.trans (hup.trans v1)).cell t0
   have t2':=(u0.trans (hup.trans v1)).cell t2
   clear hsd hsx hmd hmx hff t0 t1 t2;go_wp2_with (go_at_call 274;refine(C1.out _).mono ?_;rintro e w2 ⟨rfl,hup2⟩;have p0:=hup2.cell p0;have p1:=hup2.cell p1;have p2:=hup2.cell p2;have y0:=hup2.cell y0;have y1:=hup2.cell y1;have y2:=hup2.cell y2;have t0':=hup2.cell t0';have t2':=hup2.cell t2')
   have v2:=Up.alloc w2 (.cells #[.int .i64 x.a,.int .i64 x.b,.int .i64 x.d] 172)
   have hP:=Bx.new w2 #[.int .i64 x.a,.int .i64 x.b,.int .i64 x.d] 172
   clear p0 p1 p2 q0 q1 q2 x0 x1 z0 z1;generalize w2.alloc (.cells #[.int .i64 x.a,.int .i64 x.b,.int .i64 x.d] 172)=W3 at *
   obtain⟨r0,r1,r2⟩:=hP.c3
   rw[HMX.out]at r0;have y0:=v2.cell y0
   have y1:=v2.cell y1
   rw[HMD.out]at y0;have T0:=cell_regrown (v2.cell t0')
   have T2:=cell_regrown (v2.cell t2')
   have Y0:=cell_regrown y0
   have R0:=cell_regrown r0
   clear t0' t2' y2 r1;refine wp_region_quiet_below (by kernel_rfl) (by kernel_rfl) ?_
   repeat (first|go_big_quiet_step (fail)|quiet_step (fail))
   refine wpQuiet_nil ?_
   intro w4 hw4
   obtain⟨⟨dq,osq⟩,hw4⟩:=hw4
   have hup4:Up W3 w4:=by rw[hw4];exact below_regrown _ _ _
   clear hw4 T0 T2 Y0 R0;have y1:=hup4.cell y1
   have r2:=hup4.cell r2
   have uW:=hup.trans (v1.trans (hup2.trans (v2.trans hup4)))
   clear y0 r0;have HST:=qh (show stQ t.l s.l.length l k d=gapB t.l s.l.length d x by unfold stQ;rw[← HBS.out,HKQ.out,pv_s HX'.out];rfl)
   by_cases g1:1000000≤ff
   ·have G1:=qh (show decide (ff<1000000)=false by simp;omega)
    go_wp2;go_ret;exact⟨ret_bool (by rw[allK_no HD.out (show stQ t.l s.l.length l k d=false by rw[HST.out,HGAP.out,G1.out];rfl)];simp),u0.trans uW⟩
   have G1:=qh (show decide (ff<1000000)=true by simp;omega)
   by_cases g2:d.b≤x.d
   ·have G2:=qh (show decide (x.d<d.b)=false by simp;omega)
    go_wp2;go_ret;exact⟨ret_bool (by rw[allK_no HD.out (show stQ t.l s.l.length l k d=false by rw[HST.out,HGAP.out,G1.out,G2.out];rfl)];simp),u0.trans uW⟩
   have G2:=qh (show decide (x.d<d.b)=true by simp;omega)
   by_cases g3:d.b<x.d+ff
   ·have G3:=qh (show decide (x.d+ff≤d.b)=false by simp;omega)
    go_wp2;go_ret;exact⟨ret_bool (by rw[allK_no HD.out (show stQ t.l s.l.length l k d=false by rw[HST.out,HGAP.out,G1.out,G2.out,G3.out];rfl)];simp),u0.trans uW⟩
   have G3:=qh (show decide (x.d+ff≤d.b)=true by simp;omega)
   go_wp2;go_roundw
   case rel=>exact⟨k+1,by omega,by go_num,allK_step HA.out HD.out (by rw[HST.out,HGAP.out,G1.out,G2.out,G3.out];rfl),uW⟩
   case measure=>simp[intOf];omega
  ·have HF:=qh (allK_end (l:=l) (q:=stQ t.l s.l.length l) (fun j d hj hd=>HA.out j d (by omega) hd))
   go_wp2;go_ret;exact⟨ret_bool (by rw[HF.out,Bool.and_true];exact decide_eq_decide.2 (by omega)),u0.trans hup⟩
theorem MtW.mt{w:World}{base g n c:Nat}{r:Nat→Nat}{f:Nat→Nat→Int}(h:MtW w base g r n f):MtR w (.slice (some ⟨g,0,none⟩) n c) n f :=
 ⟨g,c,rfl,fun i hi=>⟨r i,n,h.row i hi,fun j hj=>(h.cel i j hi hj).1⟩⟩
theorem MtW.congr{w:World}{base g n:Nat}{r:Nat→Nat}{f f':Nat→Nat→Int}(h:MtW w base g r n f)(hf:∀a b,a<n→b<n→f' a b=f a b):MtW w base g r n f' :=
 ⟨h.row,fun i j hi hj=>by rw[hf i j hi hj];exact h.cel i j hi hj,h.sep,h.inj⟩
def fwT(ts:List I3)(k i j a b:Nat):Int:=if a<i∨(a=i∧b<j) then fw ts (k+1) a b else fw ts k a b
theorem fwT_start(ts:List I3)(k a b:Nat):fwT ts k 0 0 a b=fw ts k a b:=by unfold fwT;rw[if_neg (by omega)]
theorem fwT_row(ts:List I3){n:Nat}(k i a b:Nat)(hb:b<n):fwT ts k (i+1) 0 a b=fwT ts k i n a b:=by
 unfold fwT
 by_cases h:a<i+1
 ·rw[if_pos (.inl h),if_pos (by omega)]
 ·rw[if_neg (by omega),if_neg (by omega)]
theorem fwT_end(ts:List I3){n:Nat}(k a b:Nat)(ha:a<n):fw ts (k+1) a b=fwT ts k n 0 a b:=by unfold fwT;rw[if_pos (.inl ha)]
theorem fwT_old(ts:List I3)(k i j:Nat):fwT ts k i j i j=fw ts k i j:=by unfold fwT;rw[if_neg (by omega)]
theorem fwT_col{ts:List I3}{n:Nat}(h:WaysOk ts n)(k i j:Nat):fwT ts k i j i k=fw ts k i k:=by
 unfold fwT;split
 ·exact fw_col h k i
 ·rfl
theorem fwT_stop{ts:List I3}{n:Nat}(h:WaysOk ts n)(k i j:Nat):fwT ts k i j k j=fw ts k k j:=by
 unfold fwT;split
 ·exact fw_row h k j
 ·rfl
theorem fwT_step(ts:List I3)(k i j a b:Nat):fwT ts k i (j+1) a b=if a=i∧b=j then min (fw ts k i j) (fw ts k i k+fw ts k k j) else fwT ts k i j a b:=by
 unfold fwT
 by_cases h:a=i∧b=j
 ·obtain⟨rfl,rfl⟩:=h
  rw[if_pos (by omega),if_pos ⟨rfl,rfl⟩];rfl
 ·rw[if_neg h]
  by_cases h2:a<i∨(a=i∧b<j)
  ·rw[if_pos (by omega),if_pos h2]
  ·rw[if_neg (by omega),if_neg h2]
theorem travels_any(s:Sl ByteArray)(t:Sl I3)(lo hi:Nat)(w:World)(hn1:1≤s.l.length)(hn:s.l.length≤12)(hws:WaysOk t.l s.l.length)(h:SrI3 w lo hi t) :
 Calls Tryz.prog 119 #[.agg #[.slice s.A s.l.length s.c,.slice t.A t.l.length t.c]] w fun e w'=>∃v,e=.returned v∧MtR w' v s.l.length (fw t.l s.l.length)∧Up w w':=by
 have u0:=Up.alloc w (.cells #[.slice s.A s.l.length s.c,.slice t.A t.l.length t.c] 55)
 have hB:=Bx.new w #[.slice s.A s.l.length s.c,.slice t.A t.l.length t.c] 55
 have CW:=qh (waysOf_any s t lo hi (w.alloc (.cells #[.slice s.A s.l.length s.c,.slice t.A t.l.length t.c] 55)) hn1 hn hws (h.up u0))
 have HWS:=qh hws
 obtain⟨A,c0,l⟩:=s
 obtain⟨B,c1,ts⟩:=t
 simp only at HWS hn hn1 u0 hB CW ⊢
 obtain⟨n,hnn⟩:∃n,n=l.length:=⟨_,rfl⟩
 rw[← hnn]at HWS hn hn1 u0 hB CW ⊢
 clear h hws hnn hB;go_enter Tryz.func119,Tryz.ntmps119
 go_wp2_with fail
 refine CW.out.mono ?_
 rintro e w2 ⟨g,c,r,rfl,hg,hW,hup2⟩
 clear CW;generalize w.alloc (.cells #[.slice A n c0,.slice B ts.length c1] 55)=wB at *
 obtain⟨base,hbase⟩:∃b,b=wB.heap.size+1:=⟨_,rfl⟩
 rw[← hbase]at hW;have hbs:wB.heap.size≤base:=by omega
 clear hbase;have hW0:MtW w2 base g r n (fw ts 0):=hW
 clear hW;go_wp2_with fail
 go_loopw [11] (fun i wr=>∃k:Nat,k≤n∧i=.int .i64 k∧MtW wr base g r n (fw ts k)∧Up wB wr) (fun i _=>n-(intOf i).toNat)
 case atStart=>exact⟨0,Nat.zero_le _,rfl,hW0,hup2⟩
 case round =>
  obtain⟨k,hk,rfl,hW,hup⟩:=hrel
  by_cases hkn:k<n
  ·obtain⟨wo,rfl⟩:∃x,x=wr:=⟨_,rfl⟩
   have hW1:=hW.congr (f':=fwT ts k 0 0) (fun a b _ _=>fwT_start ts k a b)
   go_wp2_with fail
   go_loopw [16] (fun i wr=>∃x:Nat,x≤n∧i=.int .i64 x∧MtW wr base g r n (fwT ts k x 0)∧Up wB wr) (fun i _=>n-(intOf i).toNat)
   case atStart=>exact⟨0,Nat.zero_le _,rfl,hW1,hup⟩
   case round =>
    obtain⟨x,hx,rfl,hW,hup⟩:=hrel
    by_cases hxn:x<n
    ·obtain⟨wo2,rfl⟩:∃x,x=wr:=⟨_,rfl⟩
     go_wp2_with fail
     go_loopw [21] (fun i wr=>∃y:Nat,y≤n∧i=.int .i64 y∧MtW wr base g r n (fwT ts k x y)∧Up wB wr) (fun i _=>n-(intOf i).toNat)
     case atStart=>exact⟨0,Nat.zero_le _,rfl,hW,hup⟩
     case round =>
      obtain⟨y,hy,rfl,hW,hup⟩:=hrel
      by_cases hyn:y<n
      ·have t0:=hW.row x hxn
       have t1:=hW.row k hkn
       obtain⟨c0,c1⟩:=hW.cel x y hxn hyn
       obtain⟨c2,-⟩:=hW.cel x k hxn hkn
       obtain⟨c3,-⟩:=hW.cel k y hkn hyn
       rw[fwT_old]at c0;rw[fwT_col HWS.out]at c2;rw[fwT_stop HWS.out]at c3;have b0:=fw_bd HWS.out k x k
       have b1:=fw_bd HWS.out k k y
       have HP:=qh (hW.put (f':=fwT ts k x (y+1)) hxn hyn _ (fun a b _ _=>fwT_step ts k x y a b))
       generalize fw ts k x y=p0 at *
       generalize fw ts k x k=p1 at *
       generalize fw ts k k y=p2 at *
       have hwr:IntKind.i64.wrap (p1+p2)=p1+p2:=IntWalk.i64_in _ (by omega)
       have i0:(x:Int)<(n:Int):=by omega
       have i1:(y:Int)<(n:Int):=by omega
       have i2:(k:Int)<(n:Int):=by omega
       go_wp2_with fail
       go_still_tail 29,(by kernel_rfl)
       change wpList _ _ _ _ _ wr.drew
       have hd1:=(Up.refl wr).drew
       have t2':=(hW.up hd1).cel x y hxn hyn
       go_wp2;have hW4:=HP.out.up ((Up.refl (wr.setCell ⟨r x,y,none⟩ (.int .i64 (min p0 (p1+p2))))).drew)
       have hb5:=(hup.setCell (p:=⟨r x,y,none⟩) (by have:=(hW.sep x hxn).2;show wB.heap.size≤r x;omega) (.int .i64 (min p0 (p1+p2)))).drew
       clear t0 t1 c0 c1 c2 c3 t2' hd1 hwr;go_roundw
       case rel=>exact⟨y+1,by omega,by go_num,hW4,hb5⟩
       case measure=>simp[intOf];omega
      ·obtain rfl:y=n:=by omega
       have hW3:=hW.congr (f':=fwT ts k (x+1) 0) (fun a b _ hb=>fwT_row ts k x a b hb)
       go_wp2;go_roundw
       case rel=>exact⟨x+1,by omega,by go_num,hW3,hup⟩
       case measure=>simp[intOf];omega
    ·obtain rfl:x=n:=by omega
     have hW3:=hW.congr (f':=fw ts (k+1)) (fun a b ha _=>fwT_end ts k a b ha)
     go_wp2;go_roundw
     case rel=>exact⟨k+1,by omega,by go_num,hW3,hup⟩
     case measure=>simp[intOf];omega
  ·obtain rfl:k=n:=by omega
   go_wp2;go_ret;exact⟨_,rfl,hW.mt,u0.trans hup⟩
theorem implIsItinerary_of(s:Sl ByteArray)(t st:Sl I3)(lo hi:Nat)(w:World)(h:SrSt w lo hi s)(h2:SrI3 w lo hi t)(h3:SrI3 w lo hi st)
 (hT:∀wx,Up w wx→ldB s.l t.l=true→Calls Tryz.prog 119 #[.agg #[.slice s.A s.l.length s.c,.slice t.A t.l.length t.c]] wx fun e w'=>∃v,e=.returned v∧MtR w' v s.l.length (fw t.l s.l.length)∧Up wx w') :
 Calls Tryz.prog 194 #[.agg #[.slice s.A s.l.length s.c,.slice t.A t.l.length t.c],.slice st.A st.l.length st.c] w fun e w'=>e=.returned (.bool (itB s.l t.l st.l))∧Up w w':=by
 have u0:=Up.alloc w (.cells #[.slice s.A s.l.length s.c,.slice t.A t.l.length t.c] 55)
 have hB:=Bx.new w #[.slice s.A s.l.length s.c,.slice t.A t.l.length t.c] 55
 obtain⟨b1,hb1⟩:∃z,z=ldB s.l t.l:=⟨_,rfl⟩
 obtain⟨b2,hb2⟩:∃z,z=(decide (st.l.length≤40) && allK st.l (stQ t.l s.l.length st.l)):=⟨_,rfl⟩
 have HE:=qh (show itB s.l t.l st.l=(b1 && b2) by unfold itB;rw[hb1,hb2])
 have cL:∀wx,Up w wx→Calls Tryz.prog 237 #[.agg #[.slice s.A s.l.length s.c,.slice t.A t.l.length t.c]] wx fun e w'=>e=.returned (.bool b1)∧Up wx w':=fun wx u=>by
  rw[hb1];exact implIsLand_any s t lo hi wx (h.up u) (h2.up u)
 have cS:∀(wx:World) (v:Value),Up w wx→b1=true→MtR wx v s.l.length (fw t.l s.l.length)→Calls Tryz.prog 238 #[.agg #[.slice s.A s.l.length s.c,.slice t.A t.l.length t.c],v,.slice st.A st.l.length st.c] wx fun e w'=>e=.returned (.bool b2)∧Up wx w':=fun wx v u hb hM=>by
  rw[hb2];have hl:ldB s.l t.l=true:=by rw[← hb1];exact hb
  obtain⟨-,hn,-,hws⟩:=ldB_yes hl
  exact areStays_any s t st v lo hi wx hn hws (h3.up u) hM
 have hT':∀wx,Up w wx→b1=true→Calls Tryz.prog 119 #[.agg #[.slice s.A s.l.length s.c,.slice t.A t.l.length t.c]] wx fun e w'=>∃v,e=.returned v∧MtR w' v s.l.length (fw t.l s.l.length)∧Up wx w':=fun wx u hb=>hT wx u (by rw[← hb1];exact hb)
 have CL:=qh cL
 have CS:=qh cS
 have CT:=qh hT'
 clear hb1 hb2 cL cS hT hT' h h2 h3;rcases b1 with _|_
 ·go_enter Tryz.func194,Tryz.ntmps194
  go_wp2_with fail
  generalize w.alloc (.cells #[.slice s.A s.l.length s.c,.slice t.A t.l.length t.c] 55)=W1 at *
  obtain⟨x0,x1⟩:=hB.c2
  have X0:=cell_regrown x0
  have X1:=cell_regrown x1
  have cq:∀dd os,Calls Tryz.prog 237 #[.agg #[.slice s.A s.l.length s.c,.slice t.A t.l.length t.c]] (grow (redrawn W1 dd) os) fun e w''=>e=.returned (.bool false)∧∃p:Regrown,w''=grow (redrawn W1 p.d) p.os:=fun dd os=>Calls.regrown_of (CL.out _ (u0.trans (below_regrown W1 dd os)))
  clear x0 x1;refine wp_region_quiet_below (by kernel_rfl) (by kernel_rfl) ?_
  repeat (first|go_big_quiet_step ((go_at_call 237;exact cq _ _))|quiet_step ((go_at_call 237;exact cq _ _)))
  refine wpQuiet_nil ?_
  intro w4 hw4
  obtain⟨⟨dq,osq⟩,hw4⟩:=hw4
  have hup4:Up W1 w4:=by rw[hw4];exact below_regrown _ _ _
  clear hw4 X0 X1 cq;go_wp2;go_ret;exact⟨ret_bool (by rw[HE.out];rfl),u0.trans hup4⟩
 ·go_enter Tryz.func194,Tryz.ntmps194
  go_wp2_with fail
  generalize w.alloc (.cells #[.slice s.A s.l.length s.c,.slice t.A t.l.length t.c] 55)=W1 at *
  obtain⟨x0,x1⟩:=hB.c2
  clear hB;have hd:Up W1 W1.drew:=(Up.refl _).drew
  go_region_held3 (fun w'=>Up W1 w'∧w'.cell? ⟨w.heap.size,0,none⟩=some (.slice s.A s.l.length s.c)∧w'.cell? ⟨w.heap.size,1,none⟩=some (.slice t.A t.l.length t.c))
   (first|exact⟨Up.refl _,x0,x1⟩|exact⟨(Up.refl _).drew,x0,x1⟩|exact⟨by assumption,by assumption,by assumption⟩)
   (first
     |(go_at_call 237
       refine(CL.out _ (u0.trans hd)).mono ?_
       rintro e w2 ⟨rfl,v2⟩
       have hd2:=hd.trans v2
       have g0:=hd2.cell x0
       have g1:=hd2.cell x1)
     |(go_at_call 119
       refine(CT.out _ (u0.trans hd2) (by trivial)).mono ?_
       rintro e w3 ⟨vv,rfl,hM,v3⟩
       have hd3:=hd2.trans v3
       have g0':=hd3.cell x0
       have g1':=hd3.cell x1)
     |(go_at_call 238
       refine(CS.out _ _ (u0.trans hd3) (by trivial) hM).mono ?_
       rintro e w4 ⟨rfl,v4⟩
       have hd4:=hd3.trans v4
       have g0'':=hd4.cell x0
       have g1'':=hd4.cell x1))
  all_goals
   go_wp2;go_ret;exact⟨ret_bool (by rw[HE.out];rfl),u0.trans (by assumption)⟩
end Go.Proofs.YtihcmhmanfobcaaGreatDoor
