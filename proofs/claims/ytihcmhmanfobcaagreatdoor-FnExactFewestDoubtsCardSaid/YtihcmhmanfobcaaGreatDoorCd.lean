/- On which days a clause holds, a witness could sign, somebody could be at a place, a source allows: plain. -/
import Derived.Test.YtihcmhmanfobcaaGreatDoorYs
import Derived.Test.YtihcmhmanfobcaaGreatDoorVd
import Derived.Test.YtihcmhmanfobcaaGreatDoorVg
import Derived.Test.YtihcmhmanfobcaaGreatDoorCc
set_option maxHeartbeats 4000000
set_option maxRecDepth 100000
namespace Go.Proofs.YtihcmhmanfobcaaGreatDoor
open Go.RowKit Go.Sort
def rgHd(c:Cl)(n:Int)(r:Nm):Bool:=(r.nm.toList==c.kg.toList) && (inB n r.fr r.to_ && decide (rgY r.fr n=c.nu))
def feAt(c:Cl)(n y:Int):Bool:=decide (rlN c.fe c.re_ c.wk y=n)
def feHd(c:Cl)(n:Int):Bool:=(List.range 3).any fun j=>inB (yOf n-1+(j:Int)) 1 2000 && feAt c n (yOf n-1+(j:Int))
theorem feHd_yes{c:Cl}{n y:Int}(h0:yOf n-1≤y)(h1:y≤yOf n+1)(h2:1≤y)(h3:y≤2000)(h:feAt c n y=true):feHd c n=true:=by
 refine List.any_eq_true.2 ⟨(y-(yOf n-1)).toNat,List.mem_range.2 (by omega),?_⟩
 rw[show yOf n-1+(((y-(yOf n-1)).toNat:Nat):Int)=y by omega,h]
 simp[inB];omega
theorem feHd_no{c:Cl}{n:Int}(h:∀y,yOf n-1≤y→y≤yOf n+1→1≤y→y≤2000→feAt c n y=false):feHd c n=false:=by
 rcases hh:feHd c n with _|_
 ·rfl
 ·obtain⟨j,hj,h1⟩:=List.any_eq_true.1 hh
  have hj':=List.mem_range.1 hj
  rw[Bool.and_eq_true]at h1;have h2:1≤yOf n-1+(j:Int)∧yOf n-1+(j:Int)≤2000:=by simpa[inB] using h1.1
  rw[h _ (by omega) (by omega) h2.1 h2.2]at h1
  exact absurd h1.2 (by simp)
def hdB(rs:List Nm)(c:Cl)(n:Int):Bool :=
 if c.ki=0 then decide (dM n=c.mo) && decide (dD n=c.nu)
 else if c.ki=1 then feHd c n
 else if c.ki=2 then rs.any (rgHd c n)
 else if c.ki=3 then decide (yrOn c.sy n=some c.nu)
 else if c.ki=4 then decide (inN c.sy n=c.nu)
 else decide (wkN n=c.wk)
def ftB(rs:List Nm)(l:List Cl)(n:Int):Bool:=l.all fun c=>hdB rs c n
def ofL(ts:List Tm)(o p:ByteArray):List Sp:=(ts.filter fun t=>(t.of_.toList==o.toList) && (t.pe.toList==p.toList)).map fun t=>(t.fr,t.to_)
def wsgB(ps:List Nm)(ts:List Tm)(z:Wi)(n:Int):Bool :=
 if z.of_.toList=[] then(match ps.find? (fun x=>x.nm.toList==z.pe.toList) with|some x=>inB n x.fr x.to_|none=>false) else hasL (ofL ts z.of_ z.pe) n
def gpF(ws:List I3)(m:Nat)(st:List I3)(p:Nat):Nat→Int
 | 0=>0
 | i+1=>match st[i]? with|some s=>s.d+max 1 (fw ws m s.a.toNat p)|none=>0
def gpT(ws:List I3)(m:Nat)(st:List I3)(p i:Nat):Int:=match st[i]? with|some s=>s.b-max 1 (fw ws m s.a.toNat p)|none=>730499
def gpL(ws:List I3)(m:Nat)(st:List I3)(p i:Nat):List Sp:=if gpF ws m st p i≤gpT ws m st p i then [(gpF ws m st p i,gpT ws m st p i)] else []
def stL1(st:List I3)(p i:Nat):List Sp:=match st[i]? with|some s=>if s.a=(p:Int) then [(s.b,s.d)] else []|none=>[]
def cbT(ws:List I3)(m:Nat)(st:List I3)(p:Nat):Nat→List Sp
 | 0=>[]
 | i+1=>cbT ws m st p i++(gpL ws m st p i++stL1 st p i)
def cbL(ws:List I3)(m:Nat)(st:List I3)(p:Nat):List Sp:=cbT ws m st p (st.length+1)
theorem cbT_len(ws:List I3)(m:Nat)(st:List I3)(p:Nat):∀i,(cbT ws m st p i).length≤2*i
 | 0=>by simp[cbT]
 | i+1=>by
   have h1:=cbT_len ws m st p i
   have h2:(gpL ws m st p i).length≤1:=by unfold gpL;split<;>simp
   have h3:(stL1 st p i).length≤1:=by unfold stL1;split<;>(try split)<;>simp
   simp only[cbT,List.length_append];omega
theorem cbT_dy{ws:List I3}{m:Nat}{st:List I3}{p:Nat}(hs:∀s∈st,spanB s.b s.d=true):∀i,DyS (cbT ws m st p i)
 | 0=>by(intro s hs;cases hs)
 | i+1=>by
   intro x hx
   simp only[cbT]at hx
   rcases List.mem_append.1 hx with hx|hx
   ·exact cbT_dy hs i x hx
   ·rcases List.mem_append.1 hx with hx|hx
    ·unfold gpL at hx
     split at hx
     ·rename_i h
      rw[List.mem_singleton.1 hx];refine⟨?_,h,?_⟩
      ·cases i with
       | zero=>exact Int.le_refl _
       | succ i =>
         simp only[gpF]
         rcases hi:st[i]? with _|s
         ·simp
         ·have:=hs s (List.mem_of_getElem? hi)
          simp[spanB,dayB,inB]at this
          simp only[];omega
      ·simp only[gpT]
       rcases hi:st[i]? with _|s
       ·simp
       ·have:=hs s (List.mem_of_getElem? hi)
        simp[spanB,dayB,inB]at this
        simp only[];omega
     ·cases hx
    ·unfold stL1 at hx
     rcases hi:st[i]? with _|s
     ·rw[hi]at hx;cases hx
     ·rw[hi]at hx
      simp only[]at hx
      split at hx
      ·have:=hs s (List.mem_of_getElem? hi)
       simp[spanB,dayB,inB]at this
       rw[List.mem_singleton.1 hx];simp only[];omega
      ·cases hx
def plI(x:Pw)(d:Pd):Nat:=(ixB x.pl fun s=>s.toList==d.pl.toList).toNat
def srcB(x:Pw)(d:Pd)(k:Nat)(n:Int):Bool :=
 match k with
 | 0=>ftB x.rs d.da n
 | 1=>d.wi.all fun z=>wsgB x.ps x.ts z n
 | 2=>(d.pl.toList==[]) || hasL (cbL x.ws x.pl.length x.st (plI x d)) n
 | 3=>(d.se.toList==[]) || hasL (mkL x.se d.se) n
 | _=>(d.ha.toList==[]) || hasL (mkL x.ha d.ha) n
noncomputable def srcS (x:Pw) (d:Pd) (k:Nat):List Sp:=dset fun n=>inB n x.fr x.to_ && srcB x d k n
theorem inB_iff'{n a b:Int}:inB n a b=true ↔ a≤n∧n≤b:=by simp[inB]
theorem win_len{a b:Int}{p:Int→Bool}(h:a≤b)(h2:b-a≤20000):(dset fun n=>inB n a b && p n).length≤10001:=by
 have:=dset_len (p:=fun n=>inB n a b && p n) (a:=a) (b:=b) (fun n _ _ hn=>by
  simp only[Bool.and_eq_true]at hn
  exact inB_iff'.1 hn.1) (by omega)
 omega
theorem mkL_dy{l:List Nm}{s:ByteArray}(h:∀x∈l,spanB x.fr x.to_=true):DyS (mkL l s):=by
 intro x hx
 obtain⟨y,hy,rfl⟩:=List.mem_map.1 hx
 have:=h y (List.mem_filter.1 hy).1
 simp[spanB,dayB,inB]at this
 simp only[];omega
theorem ofL_dy{ts:List Tm}{o p:ByteArray}(h:∀x∈ts,spanB x.fr x.to_=true):DyS (ofL ts o p):=by
 intro x hx
 obtain⟨y,hy,rfl⟩:=List.mem_map.1 hx
 have:=h y (List.mem_filter.1 hy).1
 simp[spanB,dayB,inB]at this
 simp only[];omega
theorem ofL_len(ts:List Tm)(o p:ByteArray):(ofL ts o p).length≤ts.length:=by unfold ofL;rw[List.length_map];exact List.length_filter_le _ _
theorem DyS.bd{l:List Sp}(h:DyS l):BdS l∧OkS l:=⟨fun s hs=>by have:=h s hs;omega,fun s hs=>(h s hs).2.1⟩
theorem clB_0{nu mo fe re wk sy:Int}{kg:ByteArray}{n:Int}(rs:List Nm):hdB rs ⟨0,nu,mo,fe,re,wk,sy,kg⟩ n=(decide (dM n=mo) && decide (dD n=nu)):=rfl
theorem clB_1{nu mo fe re wk sy:Int}{kg:ByteArray}{n:Int}(rs:List Nm):hdB rs ⟨1,nu,mo,fe,re,wk,sy,kg⟩ n=feHd ⟨1,nu,mo,fe,re,wk,sy,kg⟩ n:=rfl
theorem clB_2{nu mo fe re wk sy:Int}{kg:ByteArray}{n:Int}(rs:List Nm):hdB rs ⟨2,nu,mo,fe,re,wk,sy,kg⟩ n=rs.any (rgHd ⟨2,nu,mo,fe,re,wk,sy,kg⟩ n):=rfl
theorem clB_3{nu mo fe re wk sy:Int}{kg:ByteArray}{n:Int}(rs:List Nm):hdB rs ⟨3,nu,mo,fe,re,wk,sy,kg⟩ n=decide (yrOn sy n=some nu):=rfl
theorem clB_4{nu mo fe re wk sy:Int}{kg:ByteArray}{n:Int}(rs:List Nm):hdB rs ⟨4,nu,mo,fe,re,wk,sy,kg⟩ n=decide (inN sy n=nu):=rfl
theorem clB_5{nu mo fe re wk sy:Int}{kg:ByteArray}{n:Int}(rs:List Nm):hdB rs ⟨5,nu,mo,fe,re,wk,sy,kg⟩ n=decide (wkN n=wk):=rfl
theorem all_next{l:List Nm}{p:Nm→Bool}{k:Nat}{x:Nm}(hb:∀j d,j<k→l[j]?=some d→p d=false)(hk:l[k]?=some x)(hx:p x=false):∀j d,j<k+1→l[j]?=some d→p d=false:=by
 intro j d hj hd
 rcases Nat.lt_or_ge j k with h|h
 ·exact hb j d h hd
 ·obtain rfl:j=k:=by omega
  rw[hk]at hd;cases hd;exact hx
theorem yr_dec(sy n nu:Int):decide (yrOn sy n=some nu)=(yrT sy n && decide (yrV sy n=nu)):=by
 unfold yrT yrV
 rcases yrOn sy n with _|v
 ·rfl
 ·simp
theorem l11Holds_0(A:Option Addr)(l:List Nm)(ca:Nat)(nu mo fe re wk sy:Int)(kg:ByteArray)(n:Int)(w:World)(h0:0≤n)(h1:n≤730499) :
 Calls Tryz.prog 146 #[.slice A l.length ca,.agg #[.int .i64 0,.int .i64 nu,.int .i64 mo,.int .i64 fe,.int .i64 re,.int .i64 wk,.int .i64 sy,.string kg],.int .i64 n] w fun e w'=>e=.returned (.bool (hdB l ⟨0,nu,mo,fe,re,wk,sy,kg⟩ n))∧Up w w':=by
 obtain⟨b1,e1⟩:∃z,(dM n==mo)=z:=⟨_,rfl⟩
 obtain⟨b2,e2⟩:∃z,(dD n==nu)=z:=⟨_,rfl⟩
 have HE:=qh (show hdB l ⟨0,nu,mo,fe,re,wk,sy,kg⟩ n=(b1 && b2) by rw[clB_0,← e1,← e2];rfl)
 rcases b1 with _|_<;>rcases b2 with _|_
 all_goals
  skip
  have hyb:=yOf_bd h0 h1
  have u:=Up.alloc w (.cells #[.int .i64 0,.int .i64 nu,.int .i64 mo,.int .i64 fe,.int .i64 re,.int .i64 wk,.int .i64 sy,.string kg] 209)
  have hC:=Bx.new w #[.int .i64 0,.int .i64 nu,.int .i64 mo,.int .i64 fe,.int .i64 re,.int .i64 wk,.int .i64 sy,.string kg] 209
  have CO:=qh (fun wx=>l01Old_any n wx h0 h1)
  go_enter Tryz.func146,Tryz.ntmps146
  go_wp2_with fail
  generalize w.alloc (.cells #[.int .i64 0,.int .i64 nu,.int .i64 mo,.int .i64 fe,.int .i64 re,.int .i64 wk,.int .i64 sy,.string kg] 209)=W0 at *
  refine(CO.out _).mono ?_
  rintro e w1 ⟨rfl,v⟩
  replace u:=u.trans v;replace hC:=hC.up v;clear v CO;have hD:=Bx.new w1 #[.int .i64 (yOf n),.int .i64 (dM n),.int .i64 (dD n)] 265
  have v:=Up.alloc w1 (.cells #[.int .i64 (yOf n),.int .i64 (dM n),.int .i64 (dD n)] 265)
  replace u:=u.trans v;replace hC:=hC.up v;clear v;obtain⟨c0,c1,c2,c3,c4,c5,c6,c7⟩:=hC.c8
  go_wp2;go_ret;exact⟨ret_bool HE.out.symm,u⟩
theorem l11Holds_3(A:Option Addr)(l:List Nm)(ca:Nat)(nu mo fe re wk sy:Int)(kg:ByteArray)(n:Int)(w:World)(h0:0≤n)(h1:n≤730499)(hs:0≤sy)(hs2:sy≤6) :
 Calls Tryz.prog 146 #[.slice A l.length ca,.agg #[.int .i64 3,.int .i64 nu,.int .i64 mo,.int .i64 fe,.int .i64 re,.int .i64 wk,.int .i64 sy,.string kg],.int .i64 n] w fun e w'=>e=.returned (.bool (hdB l ⟨3,nu,mo,fe,re,wk,sy,kg⟩ n))∧Up w w':=by
 obtain⟨b1,e1⟩:∃z,yrT sy n=z:=⟨_,rfl⟩
 obtain⟨b2,e2⟩:∃z,(yrV sy n==nu)=z:=⟨_,rfl⟩
 have HE:=qh (show hdB l ⟨3,nu,mo,fe,re,wk,sy,kg⟩ n=(b1 && b2) by rw[clB_3,yr_dec,← e1,← e2];rfl)
 have c:=fun wx=>l06On_any sy n wx hs hs2 h0 h1
 simp only[e1]at c
 have CY:=qh c
 clear c e1;rcases b1 with _|_<;>rcases b2 with _|_
 all_goals
  skip
  have hyb:=yOf_bd h0 h1
  have u:=Up.alloc w (.cells #[.int .i64 3,.int .i64 nu,.int .i64 mo,.int .i64 fe,.int .i64 re,.int .i64 wk,.int .i64 sy,.string kg] 209)
  have hC:=Bx.new w #[.int .i64 3,.int .i64 nu,.int .i64 mo,.int .i64 fe,.int .i64 re,.int .i64 wk,.int .i64 sy,.string kg] 209
  have CO:=qh (fun wx=>l01Old_any n wx h0 h1)
  go_enter Tryz.func146,Tryz.ntmps146
  go_wp2_with fail
  generalize w.alloc (.cells #[.int .i64 3,.int .i64 nu,.int .i64 mo,.int .i64 fe,.int .i64 re,.int .i64 wk,.int .i64 sy,.string kg] 209)=W0 at *
  refine(CO.out _).mono ?_
  rintro e w1 ⟨rfl,v⟩
  replace u:=u.trans v;replace hC:=hC.up v;clear v CO;have hD:=Bx.new w1 #[.int .i64 (yOf n),.int .i64 (dM n),.int .i64 (dD n)] 265
  have v:=Up.alloc w1 (.cells #[.int .i64 (yOf n),.int .i64 (dM n),.int .i64 (dD n)] 265)
  replace u:=u.trans v;replace hC:=hC.up v;clear v;obtain⟨c0,c1,c2,c3,c4,c5,c6,c7⟩:=hC.c8
  go_wp2_with fail
  refine(CY.out _).mono ?_
  rintro e w2 ⟨rfl,v⟩
  replace hC:=hC.up v;replace u:=u.trans v;clear v c0 c1 c2 c3 c4 c5 c6 c7;obtain⟨c0,c1,c2,c3,c4,c5,c6,c7⟩:=hC.c8
  go_wp2;go_ret;exact⟨ret_bool HE.out.symm,u⟩
theorem l11Holds_4(A:Option Addr)(l:List Nm)(ca:Nat)(nu mo fe re wk sy:Int)(kg:ByteArray)(n:Int)(w:World)(h0:0≤n)(h1:n≤730499)(hs:0≤sy)(hs2:sy≤2) :
 Calls Tryz.prog 146 #[.slice A l.length ca,.agg #[.int .i64 4,.int .i64 nu,.int .i64 mo,.int .i64 fe,.int .i64 re,.int .i64 wk,.int .i64 sy,.string kg],.int .i64 n] w fun e w'=>e=.returned (.bool (hdB l ⟨4,nu,mo,fe,re,wk,sy,kg⟩ n))∧Up w w':=by
 have HE:=qh (clB_4 (nu:=nu) (mo:=mo) (fe:=fe) (re:=re) (wk:=wk) (sy:=sy) (kg:=kg) (n:=n) l)
 have CY:=qh (fun wx=>l08On_any sy n wx hs hs2 h0 h1)
 have hyb:=yOf_bd h0 h1
 have u:=Up.alloc w (.cells #[.int .i64 4,.int .i64 nu,.int .i64 mo,.int .i64 fe,.int .i64 re,.int .i64 wk,.int .i64 sy,.string kg] 209)
 have hC:=Bx.new w #[.int .i64 4,.int .i64 nu,.int .i64 mo,.int .i64 fe,.int .i64 re,.int .i64 wk,.int .i64 sy,.string kg] 209
 have CO:=qh (fun wx=>l01Old_any n wx h0 h1)
 go_enter Tryz.func146,Tryz.ntmps146
 go_wp2_with fail
 generalize w.alloc (.cells #[.int .i64 4,.int .i64 nu,.int .i64 mo,.int .i64 fe,.int .i64 re,.int .i64 wk,.int .i64 sy,.string kg] 209)=W0 at *
 refine(CO.out _).mono ?_
 rintro e w1 ⟨rfl,v⟩
 replace u:=u.trans v;replace hC:=hC.up v;clear v CO;have hD:=Bx.new w1 #[.int .i64 (yOf n),.int .i64 (dM n),.int .i64 (dD n)] 265
 have v:=Up.alloc w1 (.cells #[.int .i64 (yOf n),.int .i64 (dM n),.int .i64 (dD n)] 265)
 replace u:=u.trans v;replace hC:=hC.up v;clear v;obtain⟨c0,c1,c2,c3,c4,c5,c6,c7⟩:=hC.c8
 go_wp2_with fail
 generalize w1.alloc (.cells #[.int .i64 (yOf n),.int .i64 (dM n),.int .i64 (dD n)] 265)=W2 at *
 have Y1:=cell_regrown c1
 have Y5:=cell_regrown c5
 have Y6:=cell_regrown c6
 have cN:∀dd os,Calls Tryz.prog 190 #[.int .i64 sy,.int .i64 n] (grow (redrawn W2 dd) os) fun e w''=>e=.returned (.int .i64 (inN sy n))∧∃p:Regrown,w''=grow (redrawn W2 p.d) p.os:=fun dd os=>Calls.regrown_of (CY.out _)
 clear c0 c1 c2 c3 c4 c5 c6 c7;refine wp_region_quiet_below (by kernel_rfl) (by kernel_rfl) ?_
 repeat (first|go_big_quiet_step ((go_at_call 190;exact cN _ _))|quiet_step ((go_at_call 190;exact cN _ _)))
 refine wpQuiet_nil ?_
 intro w3 hw3
 obtain⟨⟨dq,osq⟩,hw3⟩:=hw3
 have v:Up W2 w3:=by rw[hw3];exact below_regrown _ _ _
 clear hw3 Y1 Y5 Y6 cN;go_wp2;go_ret;exact⟨ret_bool (by rw[HE.out];rfl),u.trans v⟩
theorem l11Holds_5(A:Option Addr)(l:List Nm)(ca:Nat)(nu mo fe re wk sy:Int)(kg:ByteArray)(n:Int)(w:World)(h0:0≤n)(h1:n≤730499) :
 Calls Tryz.prog 146 #[.slice A l.length ca,.agg #[.int .i64 5,.int .i64 nu,.int .i64 mo,.int .i64 fe,.int .i64 re,.int .i64 wk,.int .i64 sy,.string kg],.int .i64 n] w fun e w'=>e=.returned (.bool (hdB l ⟨5,nu,mo,fe,re,wk,sy,kg⟩ n))∧Up w w':=by
 have HE:=qh (clB_5 (nu:=nu) (mo:=mo) (fe:=fe) (re:=re) (wk:=wk) (sy:=sy) (kg:=kg) (n:=n) l)
 have hyb:=yOf_bd h0 h1
 have u:=Up.alloc w (.cells #[.int .i64 5,.int .i64 nu,.int .i64 mo,.int .i64 fe,.int .i64 re,.int .i64 wk,.int .i64 sy,.string kg] 209)
 have hC:=Bx.new w #[.int .i64 5,.int .i64 nu,.int .i64 mo,.int .i64 fe,.int .i64 re,.int .i64 wk,.int .i64 sy,.string kg] 209
 have CO:=qh (fun wx=>l01Old_any n wx h0 h1)
 go_enter Tryz.func146,Tryz.ntmps146
 go_wp2_with fail
 generalize w.alloc (.cells #[.int .i64 5,.int .i64 nu,.int .i64 mo,.int .i64 fe,.int .i64 re,.int .i64 wk,.int .i64 sy,.string kg] 209)=W0 at *
 refine(CO.out _).mono ?_
 rintro e w1 ⟨rfl,v⟩
 replace u:=u.trans v;replace hC:=hC.up v;clear v CO;have hD:=Bx.new w1 #[.int .i64 (yOf n),.int .i64 (dM n),.int .i64 (dD n)] 265
 have v:=Up.alloc w1 (.cells #[.int .i64 (yOf n),.int .i64 (dM n),.int .i64 (dD n)] 265)
 replace u:=u.trans v;replace hC:=hC.up v;clear v;obtain⟨c0,c1,c2,c3,c4,c5,c6,c7⟩:=hC.c8
 go_wp2_with fail
 generalize w1.alloc (.cells #[.int .i64 (yOf n),.int .i64 (dM n),.int .i64 (dD n)] 265)=W2 at *
 have Y1:=cell_regrown c1
 have Y5:=cell_regrown c5
 have Y6:=cell_regrown c6
 have cN:∀dd os,Calls Tryz.prog 191 #[.int .i64 n] (grow (redrawn W2 dd) os) fun e w''=>e=.returned (.int .i64 (wkN n))∧∃p:Regrown,w''=grow (redrawn W2 p.d) p.os:=fun dd os=>Calls.regrown_of ((l01Weekday_any n _ h0 (by omega)).mono fun e w' ⟨h,h2⟩=>⟨h,by rw[← h2];exact Up.refl _⟩)
 clear c0 c1 c2 c3 c4 c5 c6 c7;refine wp_region_quiet_below (by kernel_rfl) (by kernel_rfl) ?_
 repeat (first|go_big_quiet_step ((go_at_call 191;exact cN _ _))|quiet_step ((go_at_call 191;exact cN _ _)))
 refine wpQuiet_nil ?_
 intro w3 hw3
 obtain⟨⟨dq,osq⟩,hw3⟩:=hw3
 have v:Up W2 w3:=by rw[hw3];exact below_regrown _ _ _
 clear hw3 Y1 Y5 Y6 cN;go_wp2;go_ret;exact⟨ret_bool (by rw[HE.out];rfl),u.trans v⟩
theorem l11Holds_1(A:Option Addr)(l:List Nm)(ca:Nat)(nu mo fe re wk sy:Int)(kg:ByteArray)(n:Int)(w:World)(h0:0≤n)(h1:n≤730499)(hf:0≤fe)(hf2:fe≤19)(hre:0≤re)(hre2:re≤4)(hwk:0≤wk)(hwk2:wk≤6) :
 Calls Tryz.prog 146 #[.slice A l.length ca,.agg #[.int .i64 1,.int .i64 nu,.int .i64 mo,.int .i64 fe,.int .i64 re,.int .i64 wk,.int .i64 sy,.string kg],.int .i64 n] w fun e w'=>e=.returned (.bool (hdB l ⟨1,nu,mo,fe,re,wk,sy,kg⟩ n))∧Up w w':=by
 have HE:=qh (clB_1 (nu:=nu) (mo:=mo) (fe:=fe) (re:=re) (wk:=wk) (sy:=sy) (kg:=kg) (n:=n) l)
 obtain⟨b1,hb1⟩:∃b,b=w.heap.size+1:=⟨_,rfl⟩
 clear hb1 b1;have hyb:=yOf_bd h0 h1
 have u:=Up.alloc w (.cells #[.int .i64 1,.int .i64 nu,.int .i64 mo,.int .i64 fe,.int .i64 re,.int .i64 wk,.int .i64 sy,.string kg] 209)
 have hC:=Bx.new w #[.int .i64 1,.int .i64 nu,.int .i64 mo,.int .i64 fe,.int .i64 re,.int .i64 wk,.int .i64 sy,.string kg] 209
 have CO:=qh (fun wx=>l01Old_any n wx h0 h1)
 go_enter Tryz.func146,Tryz.ntmps146
 go_wp2_with fail
 generalize w.alloc (.cells #[.int .i64 1,.int .i64 nu,.int .i64 mo,.int .i64 fe,.int .i64 re,.int .i64 wk,.int .i64 sy,.string kg] 209)=W0 at *
 refine(CO.out _).mono ?_
 rintro e w1 ⟨rfl,v⟩
 replace u:=u.trans v;replace hC:=hC.up v;clear v CO;have hD:=Bx.new w1 #[.int .i64 (yOf n),.int .i64 (dM n),.int .i64 (dD n)] 265
 have v:=Up.alloc w1 (.cells #[.int .i64 (yOf n),.int .i64 (dM n),.int .i64 (dD n)] 265)
 replace u:=u.trans v;replace hC:=hC.up v;clear v;obtain⟨c0,c1,c2,c3,c4,c5,c6,c7⟩:=hC.c8
 have q1:1≤max 1 (yOf n-1)∧max 1 (yOf n-1)≤yOf n∧yOf n-1≤max 1 (yOf n-1):=by omega
 go_wp2_with fail
 generalize w1.alloc (.cells #[.int .i64 (yOf n),.int .i64 (dM n),.int .i64 (dD n)] 265)=W2 at *
 clear c0 c1 c2 c3 c4 c5 c6 c7;obtain⟨m0,hm0⟩:∃z,z=max 1 (yOf n-1):=⟨_,rfl⟩
 rw[← hm0]at q1 ⊢
 have q2:m0≤1∨m0≤yOf n-1:=by omega
 clear hm0;go_loopw [8] (fun tv wr=>∃y:Int,m0≤y∧y≤2001∧y≤yOf n+2∧tv=.int .i64 y∧Hid (∀z,yOf n-1≤z→1≤z→z<y→feAt ⟨1,nu,mo,fe,re,wk,sy,kg⟩ n z=false)∧Bx wr w.heap.size [.int .i64 1,.int .i64 nu,.int .i64 mo,.int .i64 fe,.int .i64 re,.int .i64 wk,.int .i64 sy,.string kg]∧Bx wr w1.heap.size [.int .i64 (yOf n),.int .i64 (dM n),.int .i64 (dD n)]∧Up w wr) (fun tv _=>(2002-intOf tv).toNat)
 case atStart=>exact⟨m0,Int.le_refl _,by omega,by omega,rfl,qh (fun z a b c=>by exfalso;have:=q1.2.2;omega),hC,hD,u⟩
 case round =>
  clear hC hD u;obtain⟨y,hy0,hy1,hy2,rfl,hb,hC,hD,u⟩:=hrel
  obtain⟨c0,c1,c2,c3,c4,c5,c6,c7⟩:=hC.c8
  obtain⟨d0,d1,d2⟩:=hD.c3
  by_cases hlt:y≤min 2000 (yOf n+1)
  ·have hdl:decide (y≤min 2000 (yOf n+1))=true:=by simpa using hlt
   have y1:1≤y∧y≤2000∧y≤yOf n+1:=by omega
   clear hlt;have c:=fun wx=>l05Related_any fe re wk y wx hf hf2 hre hre2 hwk hwk2 y1.1 y1.2.1
   obtain⟨r,hr⟩:∃z,z=rlN fe re wk y:=⟨_,rfl⟩
   have HF:=qh (show feAt ⟨1,nu,mo,fe,re,wk,sy,kg⟩ n y=(r==n) by rw[hr];rfl)
   simp only[← hr]at c
   have CR:=qh c
   clear hr c;obtain⟨b,hbn⟩:∃z,(r==n)=z:=⟨_,rfl⟩
   rw[hbn]at HF;go_wp2_with fail
   refine(CR.out _).mono ?_
   rintro e w3 ⟨rfl,v⟩
   replace hC:=hC.up v;replace hD:=hD.up v;replace u:=u.trans v;clear v c0 c1 c2 c3 c4 c5 c6 c7 d0 d1 d2;rcases b with _|_
   ·go_wp2
    go_roundw
    case rel=>exact⟨y+1,by omega,by omega,by omega,rfl,qh (fun z a b c=>by
     rcases Int.lt_or_le z y with h|h
     ·exact hb.out z a b h
     ·obtain rfl:z=y:=by omega
      exact HF.out),hC,hD,u⟩
    case measure=>simp[intOf];omega
   ·have HH:=qh (feHd_yes (c:=⟨1,nu,mo,fe,re,wk,sy,kg⟩) (n:=n) (y:=y) (by omega) y1.2.2 y1.1 y1.2.1 HF.out)
    go_wp2;go_ret;exact⟨ret_bool (by rw[HE.out,HH.out]),u⟩
  ·have hdl:decide (y≤min 2000 (yOf n+1))=false:=by simpa using hlt
   have HH:=qh (feHd_no (c:=⟨1,nu,mo,fe,re,wk,sy,kg⟩) (n:=n) (fun z a b c d=>hb.out z a c (by omega)))
   clear hlt;go_wp2;go_ret;exact⟨ret_bool (by rw[HE.out,HH.out]),u⟩
theorem l11Holds_2(A:Option Addr)(l:List Nm)(ca lo hi:Nat)(nu mo fe re wk sy:Int)(kg:ByteArray)(n:Int)(w:World)(hr:RdNm w lo hi A l)(hhi:hi≤w.heap.size)(hn:l.length≤2000000)(hsp:∀d∈l,spanB d.fr d.to_=true)(h0:0≤n)(h1:n≤730499) :
 Calls Tryz.prog 146 #[.slice A l.length ca,.agg #[.int .i64 2,.int .i64 nu,.int .i64 mo,.int .i64 fe,.int .i64 re,.int .i64 wk,.int .i64 sy,.string kg],.int .i64 n] w fun e w'=>e=.returned (.bool (hdB l ⟨2,nu,mo,fe,re,wk,sy,kg⟩ n))∧Up w w':=by
 have HE:=qh (clB_2 (nu:=nu) (mo:=mo) (fe:=fe) (re:=re) (wk:=wk) (sy:=sy) (kg:=kg) (n:=n) l)
 have HSP:=qh hsp
 clear hsp;have hyb:=yOf_bd h0 h1
 have u:=Up.alloc w (.cells #[.int .i64 2,.int .i64 nu,.int .i64 mo,.int .i64 fe,.int .i64 re,.int .i64 wk,.int .i64 sy,.string kg] 209)
 have hC:=Bx.new w #[.int .i64 2,.int .i64 nu,.int .i64 mo,.int .i64 fe,.int .i64 re,.int .i64 wk,.int .i64 sy,.string kg] 209
 have CO:=qh (fun wx=>l01Old_any n wx h0 h1)
 go_enter Tryz.func146,Tryz.ntmps146
 go_wp2_with fail
 generalize w.alloc (.cells #[.int .i64 2,.int .i64 nu,.int .i64 mo,.int .i64 fe,.int .i64 re,.int .i64 wk,.int .i64 sy,.string kg] 209)=W0 at *
 refine(CO.out _).mono ?_
 rintro e w1 ⟨rfl,v⟩
 replace u:=u.trans v;replace hC:=hC.up v;clear v CO;have hD:=Bx.new w1 #[.int .i64 (yOf n),.int .i64 (dM n),.int .i64 (dD n)] 265
 have v:=Up.alloc w1 (.cells #[.int .i64 (yOf n),.int .i64 (dM n),.int .i64 (dD n)] 265)
 replace u:=u.trans v;replace hC:=hC.up v;clear v;obtain⟨c0,c1,c2,c3,c4,c5,c6,c7⟩:=hC.c8
 go_wp2_with fail
 generalize w1.alloc (.cells #[.int .i64 (yOf n),.int .i64 (dM n),.int .i64 (dD n)] 265)=W2 at *
 clear c0 c1 c2 c3 c4 c5 c6 c7;go_loopw [9] (fun tv wr=>∃k:Nat,k≤l.length∧tv=.int .i64 k∧Hid (∀j d,j<k→l[j]?=some d→rgHd ⟨2,nu,mo,fe,re,wk,sy,kg⟩ n d=false)∧Bx wr w.heap.size [.int .i64 2,.int .i64 nu,.int .i64 mo,.int .i64 fe,.int .i64 re,.int .i64 wk,.int .i64 sy,.string kg]∧Up w wr) (fun tv _=>l.length-(intOf tv).toNat)
 case atStart=>exact⟨0,Nat.zero_le _,rfl,qh (fun j d h=>absurd h (by omega)),hC,u⟩
 case round =>
  clear hC u;obtain⟨k,hk,rfl,hb,hC,u⟩:=hrel
  by_cases hlt:k<l.length
  ·obtain⟨b,off,d,rfl,-,-,hd,q0,q1,q2⟩:=(hr.up u hhi).nm hlt
   have HDD:=qh hd
   have hds:=HSP.out d (List.mem_of_getElem? hd)
   clear hd;have hds2:0≤d.fr∧d.fr≤730499∧d.fr≤d.to_∧d.to_≤730499:=by
    simp[spanB,dayB,inB]at hds;omega
   clear hds;obtain⟨b1,e1⟩:∃z,(d.nm.toList==kg.toList)=z:=⟨_,rfl⟩
   obtain⟨b2,e2⟩:∃z,inB n d.fr d.to_=z:=⟨_,rfl⟩
   obtain⟨b3,e3⟩:∃z,(rgY d.fr n==nu)=z:=⟨_,rfl⟩
   have HG:=qh (show rgHd ⟨2,nu,mo,fe,re,wk,sy,kg⟩ n d=(b1 && (b2 && b3)) by rw[← e1,← e2,← e3];rfl)
   have hif:b2=true→d.fr≤n:=fun h=>by rw[← e2]at h;exact(inB_iff'.1 h).1
   obtain⟨c0,c1,c2,c3,c4,c5,c6,c7⟩:=hC.c8
   have Q0:=cell_regrown q0
   have Q1:=cell_regrown q1
   have Q2:=cell_regrown q2
   have Y1:=cell_regrown c1
   have Y7:=cell_regrown c7
   have cI:∀dd os,Calls Tryz.prog 49 #[.int .i64 n,.int .i64 d.fr,.int .i64 d.to_] (grow (redrawn wr dd) os) fun e w''=>e=.returned (.bool b2)∧∃p:Regrown,w''=grow (redrawn wr p.d) p.os:=fun dd os=>by rw[← e2];exact Calls.regrown_of (l01InU _ _ _ _)
   obtain⟨rg,hrg⟩:∃z,z=rgY d.fr n:=⟨_,rfl⟩
   have cY:b2=true→∀dd os,Calls Tryz.prog 188 #[.agg #[.string d.nm,.int .i64 d.fr,.int .i64 d.to_],.int .i64 n] (grow (redrawn wr dd) os) fun e w''=>e=.returned (.int .i64 rg)∧∃p:Regrown,w''=grow (redrawn wr p.d) p.os:=fun hb2 dd os=>by rw[hrg];exact Calls.regrown_of (l07Year_any d n _ hds2.1 (hif hb2) h1)
   rw[← hrg]at e3;clear hrg q0 q1 q2 c0 c1 c2 c3 c4 c5 c6 c7 hif e2;obtain⟨nm,f,t⟩:=d
   simp only[]at *;rcases b1 with _|_<;>rcases b2 with _|_<;>rcases b3 with _|_
   all_goals
    go_wp2_with fail
    refine wp_region_quiet_below (by kernel_rfl) (by kernel_rfl) ?_
   all_goals
    repeat (first|go_big_quiet_step ((first|(go_at_call 49;exact cI _ _)|(go_at_call 188;exact cY (by trivial) _ _)))|quiet_step ((first|(go_at_call 49;exact cI _ _)|(go_at_call 188;exact cY (by trivial) _ _))))
   all_goals
    refine wpQuiet_nil ?_
    intro w3 hw3
    obtain⟨⟨dq,osq⟩,hw3⟩:=hw3
    have v:Up wr w3:=by rw[hw3];exact below_regrown _ _ _
    replace u:=u.trans v;replace hC:=hC.up v;clear hw3 Q0 Q1 Q2 Y1 Y7 cI cY v e1 e3
   all_goals first
    |(have HT:=qh (show l.any (rgHd ⟨2,nu,mo,fe,re,wk,sy,kg⟩ n)=true from List.any_eq_true.2 ⟨_,List.mem_of_getElem? HDD.out,HG.out⟩);go_wp2;go_ret;exact⟨ret_bool (by rw[HE.out,HT.out]),u⟩)
    |(have HF:=qh (show rgHd ⟨2,nu,mo,fe,re,wk,sy,kg⟩ n ⟨nm,f,t⟩=false from HG.out);go_wp2;go_roundw;(case rel=>exact⟨k+1,by omega,by go_num,qh (all_next hb.out HDD.out HF.out),hC,u⟩);(case measure=>simp[intOf];omega))
  ·have HF:=qh (show l.any (rgHd ⟨2,nu,mo,fe,re,wk,sy,kg⟩ n)=false by
    rw[List.any_eq_false];intro x hx
    obtain⟨j,hj⟩:=List.getElem?_of_mem hx
    rw[hb.out j x (by have:=(List.getElem?_eq_some_iff.1 hj).1;omega) hj];simp)
   go_wp2;go_ret;exact⟨ret_bool (by rw[HE.out,HF.out]),u⟩
theorem l11Holds_any(A:Option Addr)(l:List Nm)(ca lo hi:Nat)(c:Cl)(n:Int)(w:World)(hr:RdNm w lo hi A l)(hhi:hi≤w.heap.size)(hn:l.length≤2000000)(hsp:∀d∈l,spanB d.fr d.to_=true)(hc:clB c=true)(h0:0≤n)(h1:n≤730499) :
 Calls Tryz.prog 146 #[.slice A l.length ca,c.val,.int .i64 n] w fun e w'=>e=.returned (.bool (hdB l c n))∧Up w w':=by
 obtain⟨ki,nu,mo,fe,re,wk,sy,kg⟩:=c
 by_cases k0:ki=0
 ·subst k0;exact l11Holds_0 A l ca nu mo fe re wk sy kg n w h0 h1
 by_cases k1:ki=1
 ·subst k1
  have hb:0≤fe∧fe≤19∧0≤re∧re≤4∧0≤wk∧wk≤6:=by
   simp[clB,rlB,inB]at hc
   omega
  exact l11Holds_1 A l ca nu mo fe re wk sy kg n w h0 h1 hb.1 hb.2.1 hb.2.2.1 hb.2.2.2.1 hb.2.2.2.2.1 hb.2.2.2.2.2
 by_cases k2:ki=2
 ·subst k2;exact l11Holds_2 A l ca lo hi nu mo fe re wk sy kg n w hr hhi hn hsp h0 h1
 by_cases k3:ki=3
 ·subst k3
  have hb:0≤sy∧sy≤6:=by
   simp[clB,inB]at hc
   omega
  exact l11Holds_3 A l ca nu mo fe re wk sy kg n w h0 h1 hb.1 hb.2
 by_cases k4:ki=4
 ·subst k4
  have hb:0≤sy∧sy≤2:=by
   simp[clB,inB]at hc
   omega
  exact l11Holds_4 A l ca nu mo fe re wk sy kg n w h0 h1 hb.1 hb.2
 by_cases k5:ki=5
 ·subst k5;exact l11Holds_5 A l ca nu mo fe re wk sy kg n w h0 h1
 exfalso
 simp[clB,k0,k1,k2,k3,k4,k5]at hc
end Go.Proofs.YtihcmhmanfobcaaGreatDoor
