/- sync.Once in one goroutine, its word not yet set and its lock free: the function handed in is called once, the word is set, the lock is as it was. -/
import Derived.Test.YtaoplcclemckjaaGreatDoorNorm
import Derived.Defers
import Derived.Laws.Pointers
import Derived.Laws.LoneSync
import Derived.RegionTactic
import Derived.RegionCalls
import Derived.ChangeAlike
import Derived.Laws.NewBlocks
import Derived.Deep.OwnRows
import Derived.Test.YtaoplcclemckjaaGreatDoorLib
set_option maxHeartbeats 1600000
set_option maxRecDepth 100000
namespace Go.Proofs.YtaoplcclemckjaaGreatDoor
open Go.RowKit
theorem raceDisable(w:World):(callFunc 369 #[]).run Tryz.prog w=.ok (.value (.tuple #[])) w:=run_call_mark0 Tryz.func369 (by kernel_rfl) (by kernel_rfl) (by kernel_rfl) .disable (by kernel_rfl) w
theorem raceEnable(w:World):(callFunc 371 #[]).run Tryz.prog w=.ok (.value (.tuple #[])) w:=run_call_mark0 Tryz.func371 (by kernel_rfl) (by kernel_rfl) (by kernel_rfl) .enable (by kernel_rfl) w
theorem raceAcquire(a:Addr)(w:World):(callFunc 372 #[.pointer (some a)]).run Tryz.prog w=.ok (.value (.tuple #[])) w:=run_call_marked Tryz.func372 (by kernel_rfl) (by kernel_rfl) (by kernel_rfl) .acquire (by kernel_rfl) a w
theorem raceReleaseMerge(a:Addr)(w:World):(callFunc 374 #[.pointer (some a)]).run Tryz.prog w=.ok (.value (.tuple #[])) w:=run_call_marked Tryz.func374 (by kernel_rfl) (by kernel_rfl) (by kernel_rfl) .releaseMerge (by kernel_rfl) a w
theorem store_deferred(a:Addr)(x:Value)(u:FrameMode)(w:World)(hc:w.cell? a=some x)(hz:w.frozen? a=false) :
 CallsD Tryz.prog 358 #[.pointer (some a),.bool true] u w fun e u' w'=>u'=u∧(e=.returned (.tuple #[])∧w'=w.drew.setCell a (.int .u32 1)):=by
 have hc':w.drew.cell? a=some x:=by go_simp
 have hz':w.drew.frozen? a=false:=by go_simp
 have hst:=run_call_store (P:=Tryz.prog) Tryz.func364 (by kernel_rfl) (by kernel_rfl) (by kernel_rfl) (by kernel_rfl) (k:=.u32) (y:=1) hc' hz'
 go_enter_d Tryz.func358,Tryz.ntmps358
 go_wp2;go_region_calls
 all_goals (go_end0;exact⟨rfl,rfl⟩)
theorem unlockIn_held(a:Addr)(w:World)(hc:w.cell? a=some (.int .i32 1))(hz:w.frozen? a=false) :
 Calls Tryz.prog 363 #[.pointer (some a)] w fun e w'=>e=.returned (.tuple #[])∧w'=w.setCell a (.int .i32 0):=by
 have hd:=raceDisable
 have he:=raceEnable
 have hr:=raceReleaseMerge
 have hadd:=run_call_add (P:=Tryz.prog) Tryz.func375 (by kernel_rfl) (by kernel_rfl) (by kernel_rfl) .i32 (by kernel_rfl) (y:=-1) (s:=0) hc hz (by simp[go_sem];rfl)
 have hcv:=run_convert_to_unsafe (P:=Tryz.prog) (src:=418) (dst:=422) Tryz.underlying418 Tryz.underlying422 (by kernel_rfl) hc
 go_enter Tryz.func363,Tryz.ntmps363
 go_wp2;go_end0
 exact⟨rfl,rfl⟩
theorem lockIn_free(a:Addr)(w:World)(hc:w.cell? a=some (.int .i32 0))(hz:w.frozen? a=false) :
 Calls Tryz.prog 362 #[.pointer (some a)] w fun e w'=>e=.returned (.tuple #[])∧w'=w.setCell a (.int .i32 1):=by
 have hd:=raceDisable
 have he:=raceEnable
 have ha:=raceAcquire
 have hcas:=run_call_cas_hit (P:=Tryz.prog) Tryz.func370 (by kernel_rfl) (by kernel_rfl) (by kernel_rfl) .i32 (by kernel_rfl) (y:=1) hc hz
 have hc':(w.setCell a (.int .i32 1)).cell? a=some (.int .i32 1):=World.cell?_setCell_same w a _ hc
 have hcv:=run_convert_to_unsafe (P:=Tryz.prog) (src:=418) (dst:=422) Tryz.underlying418 Tryz.underlying422 (by kernel_rfl) hc'
 go_enter Tryz.func362,Tryz.ntmps362
 go_wp2
 first|go_end0|(simp only[Exit.inBlock,Exit.then];refine bodyPost_ret (results_none rfl _ _ _) rfl ?_)|refine bodyPost_ret (results_none rfl _ _ _) rfl ?_
 exact⟨rfl,rfl⟩
def five(a b c d e:Value):Nat→Value
 | 0=>a
 | 1=>b
 | 2=>c
 | 3=>d
 | _=>e
abbrev Rp(w:World)(g:Nat)(a b c d e:Value):Prop:=w.rowIs g 360 5 (five a b c d e)
theorem Rp.set0{w:World}{g:Nat}{a b c d e:Value}(h:Rp w g a b c d e)(v:Value):Rp (w.setCell ⟨g,0,none⟩ v) g v b c d e :=
 (World.rowIs.set h 0 v).congr (fun i hi=>by match i,hi with|0,_=>rfl|1,_=>rfl|2,_=>rfl|3,_=>rfl|4,_=>rfl)
theorem Rp.set1{w:World}{g:Nat}{a b c d e:Value}(h:Rp w g a b c d e)(v:Value):Rp (w.setCell ⟨g,1,none⟩ v) g a v c d e :=
 (World.rowIs.set h 1 v).congr (fun i hi=>by match i,hi with|0,_=>rfl|1,_=>rfl|2,_=>rfl|3,_=>rfl|4,_=>rfl)
theorem Rp.set3{w:World}{g:Nat}{a b c d e:Value}(h:Rp w g a b c d e)(v:Value):Rp (w.setCell ⟨g,3,none⟩ v) g a b c v e :=
 (World.rowIs.set h 3 v).congr (fun i hi=>by match i,hi with|0,_=>rfl|1,_=>rfl|2,_=>rfl|3,_=>rfl|4,_=>rfl)
theorem Rp.set4{w:World}{g:Nat}{a b c d e:Value}(h:Rp w g a b c d e)(v:Value):Rp (w.setCell ⟨g,4,none⟩ v) g a b c d v :=
 (World.rowIs.set h 4 v).congr (fun i hi=>by match i,hi with|0,_=>rfl|1,_=>rfl|2,_=>rfl|3,_=>rfl|4,_=>rfl)
theorem Rp.c0{w:World}{g:Nat}{a b c d e:Value}(h:Rp w g a b c d e):w.cell? ⟨g,0,none⟩=some a:=World.rowIs.cell h (by decide)
theorem Rp.c1{w:World}{g:Nat}{a b c d e:Value}(h:Rp w g a b c d e):w.cell? ⟨g,1,none⟩=some b:=World.rowIs.cell h (by decide)
theorem Rp.c3{w:World}{g:Nat}{a b c d e:Value}(h:Rp w g a b c d e):w.cell? ⟨g,3,none⟩=some d:=World.rowIs.cell h (by decide)
theorem Rp.c4{w:World}{g:Nat}{a b c d e:Value}(h:Rp w g a b c d e):w.cell? ⟨g,4,none⟩=some e:=World.rowIs.cell h (by decide)
theorem lock_free(a:Addr)(w:World)(hc:w.cell? a=some (.int .i32 0))(hz:w.frozen? a=false) :
 Calls Tryz.prog 356 #[.pointer (some a)] w fun e w'=>e=.returned (.tuple #[])∧w'=w.setCell a (.int .i32 1):=by
 go_enter Tryz.func356,Tryz.ntmps356
 go_wp2_with (go_at_call 362;refine(lockIn_free a _ hc hz).mono ?_;rintro en w' ⟨rfl,rfl⟩)
 go_end0
 exact⟨rfl,rfl⟩
theorem unlock_held(a:Addr)(u:FrameMode)(w:World)(hc:w.cell? a=some (.int .i32 1))(hz:w.frozen? a=false) :
 CallsD Tryz.prog 357 #[.pointer (some a)] u w fun e u' w'=>u'=u∧(e=.returned (.tuple #[])∧w'=w.setCell a (.int .i32 0)):=by
 go_enter_d Tryz.func357,Tryz.ntmps357
 go_wp2_with (go_at_call 363;refine(unlockIn_held a _ hc hz).mono ?_;rintro en w' ⟨rfl,rfl⟩)
 go_end0
 exact⟨rfl,rfl⟩
theorem load_word(a:Addr)(d:Int)(b:Bool)(hd:(d != 0)=b)(w:World)(hc:w.cell? a=some (.int .u32 d)) :
 Calls Tryz.prog 346 #[.pointer (some a)] w fun e w'=>e=.returned (.bool b)∧w=w':=by
 have hl:=run_call_load (P:=Tryz.prog) Tryz.func355 (by kernel_rfl) (by kernel_rfl) (by kernel_rfl) .u32 (by kernel_rfl) (w:=w) (a:=a) (x:=d) hc
 go_enter Tryz.func346,Tryz.ntmps346
 go_wp2;go_ret;exact⟨rfl,rfl⟩
theorem slow_any(fb:FuncId)(hent:∀(args:Array Value) (w:World),(callFunc fb args).run Tryz.prog w=.ok (.enter fb args) w)(g:Nat)(c d e:Value)(R:World→Value→Prop)(w:World)(hr:Rp w g (.int .u32 0) (.int .i32 0) c d e)
 (hB:Calls Tryz.prog fb #[.pointer (some ⟨g,0,none⟩)] (w.setCell ⟨g,1,none⟩ (.int .i32 1)) fun en w2=>en=.returned (.tuple #[])∧∃d' e',Rp w2 g (.int .u32 0) (.int .i32 1) c d' e'∧R w2 d') :
 Calls Tryz.prog 347 #[.pointer (some ⟨g,0,none⟩),.func (.func fb) #[.pointer (some ⟨g,0,none⟩)] #[]] w fun en w'=>en=.returned (.tuple #[]) ∧
  ∃w2 d' e',Rp w2 g (.int .u32 0) (.int .i32 1) c d' e'∧R w2 d'∧w'=(w2.drew.setCell ⟨g,0,none⟩ (.int .u32 1)).setCell ⟨g,1,none⟩ (.int .i32 0):=by
 have h0:=hr.c0
 have h1:=hr.c1
 have f1:w.frozen? ⟨g,1,none⟩=false:=World.rowIs.frozen hr 1
 have hnot:∀(x:Bool) (w:World),(Op.unary .not (.bool x)).run Tryz.prog w=.ok (.bool (!x)) w:=fun _ _=>rfl
 have HB:=qh hB
 clear hB;go_enter_defers Tryz.func347,Tryz.ntmps347
 go_wp2_with (first|(go_at_call 356;refine(lock_free ⟨g,1,none⟩ _ h1 f1).mono ?_;rintro en w' ⟨rfl,rfl⟩)|(go_at_call 346;refine(load_word ⟨g,0,none⟩ 0 false rfl _ (hr.set1 _).c0).mono ?_;rintro en w' ⟨rfl,rfl⟩))
 refine HB.out.mono ?_
 rintro en w2 ⟨rfl,d',e',hr2,hR⟩
 go_wp2;refine leaves_cons (f:=358) (args:=#[.pointer (some ⟨g,0,none⟩),.bool true]) (by simp) (by simp[go_sem]) ?_
 refine(store_deferred ⟨g,0,none⟩ (.int .u32 0) .returning _ hr2.c0 (World.rowIs.frozen hr2 0)).mono ?_
 rintro en u' w'' ⟨rfl,rfl,rfl⟩
 refine leaves_cons (f:=357) (args:=#[.pointer (some ⟨g,1,none⟩)]) (by simp[settle]) (by simp[go_sem]) ?_
 have hr3:Rp w2.drew g (.int .u32 0) (.int .i32 1) c d' e':=World.rowIs.drew hr2
 refine(unlock_held ⟨g,1,none⟩ _ _ (hr3.set0 _).c1 (World.rowIs.frozen (hr3.set0 (.int .u32 1)) 1)).mono ?_
 rintro en u' w'' ⟨rfl,rfl,rfl⟩
 simp[Leaves,settle,results,Tryz.results347]
 exact⟨w2,d',⟨e',hr2⟩,hR,rfl⟩
theorem doOnce_any(fb:FuncId)(hent:∀(args:Array Value) (w:World),(callFunc fb args).run Tryz.prog w=.ok (.enter fb args) w)(g:Nat)(c d e:Value)(R:World→Value→Prop)(w:World)(hr:Rp w g (.int .u32 0) (.int .i32 0) c d e)
 (hB:Calls Tryz.prog fb #[.pointer (some ⟨g,0,none⟩)] (w.setCell ⟨g,1,none⟩ (.int .i32 1)) fun en w2=>en=.returned (.tuple #[])∧∃d' e',Rp w2 g (.int .u32 0) (.int .i32 1) c d' e'∧R w2 d') :
 Calls Tryz.prog 324 #[.pointer (some ⟨g,0,none⟩),.func (.func fb) #[.pointer (some ⟨g,0,none⟩)] #[]] w fun en w'=>en=.returned (.tuple #[]) ∧
  ∃w2 d' e',Rp w2 g (.int .u32 0) (.int .i32 1) c d' e'∧R w2 d'∧w'=(w2.drew.setCell ⟨g,0,none⟩ (.int .u32 1)).setCell ⟨g,1,none⟩ (.int .i32 0):=by
 have h0:=hr.c0
 have hnot:∀(x:Bool) (w:World),(Op.unary .not (.bool x)).run Tryz.prog w=.ok (.bool (!x)) w:=fun _ _=>rfl
 have HS:=qh (slow_any fb hent g c d e R w hr hB)
 clear hB;go_enter Tryz.func324,Tryz.ntmps324
 go_wp2_with (first|(go_at_call 347;refine HS.out.mono ?_;rintro en w' ⟨rfl,w2,d',e',hr2,hR,rfl⟩)|(go_at_call 346;refine(load_word ⟨g,0,none⟩ 0 false rfl _ h0).mono ?_;rintro en w' ⟨rfl,rfl⟩))
 go_end0
 exact⟨rfl,w2,d',e',hr2,hR,rfl⟩
def repW:List ByteArray:=[⟨#[118]⟩,⟨#[117]⟩,⟨#[106]⟩,⟨#[105]⟩,⟨#[121]⟩,⟨#[105]⟩,⟨#[119]⟩,⟨#[117,117]⟩]
theorem Rd.newsT{w:World}{lo hi:Nat}{ad:Addr}{l:List ByteArray}(h:RdT w lo hi (some ad) l):∀j u,(l.flatMap strC)[j]?=some u→w.cell? (ad.add j)=some u:=by
 intro j u hu
 have e:l.flatMap strC=l.map Value.string:=by
  clear hu h;induction l with
  | nil=>rfl
  | cons x l ih=>rw[List.flatMap_cons,ih];rfl
 rw[e,List.getElem?_map]at hu;rcases hx:l[j]? with _|x
 ·rw[hx]at hu;cases hu
 ·rw[hx]at hu
  obtain⟨b,off,z,e1,-,-,hz,hc⟩:=h.txt (k:=j) (List.getElem?_eq_some_iff.1 hx).1
  cases e1;rw[hx]at hz;cases hz
  simp at hu;subst hu
  rw[show(⟨b,off,none⟩:Addr).add j=⟨b,off+j,none⟩ by unfold Addr.add;split<;>simp_all]
  exact hc
theorem strs_one(l:List ByteArray):∀u∈l.flatMap strC,u.oneCell'=true:=by
 intro u hu
 obtain⟨x,_,hx⟩:=List.mem_flatMap.1 hu
 simp at hx;subst hx;rfl
theorem newReplacer_any(ad:Addr)(c lo hi:Nat)(w:World)(hr:RdT w lo hi (some ad) repW) :
 Calls Tryz.prog 286 #[.slice (some ad) 8 c] w fun e w'=>∃g v,e=.returned (.pointer (some ⟨g,0,none⟩))∧w.heap.size≤g∧Rp w' g (.int .u32 0) (.int .i32 0) (.int .u32 0) .nilIface v∧w'.ownsRow w.heap.size 9 1 v 8 (repW.flatMap strC)∧Up w w':=by
 obtain⟨i0,hi0,hz0,hz1,hz2⟩:=info_parts infoString
 have hn:=qh hr.newsT
 have ho:=qh (strs_one repW)
 have hnil:=World.ownsRow_nil w w.heap.size 9 1
 have hlen:(repW.flatMap strC).length=8*1:=rfl
 obtain⟨R,hR⟩:∃R,R=repW.flatMap strC:=⟨_,rfl⟩
 rw[← hR]at hn ho hlen ⊢
 clear hR hr;go_enter Tryz.func286,Tryz.ntmps286
 go_wp2_with ((at_builtin;refine wpList_append_own _ rfl _ _ 29 rfl w.heap.size 9 i0 _ 1 16 Tryz.underlying29 hi0 hz0 hz1 hz2 rfl (by decide) _ _ _ rfl hnil ad 8 c R rfl hlen hn.out ho.out (by simp[maxLen]) (by decide) (Nat.le_refl _) ?_))
 intro v' w4 hown' hgrow _
 have hu:=(Up.refl w).grown hgrow (fun k hk=>by simp[Value.ownBlock]at hk)
 obtain⟨C2',cc2,e2,-,-,hC2,-⟩:=own_form hown'
 subst e2;obtain⟨C2,rfl,-,-⟩:=hC2 (by decide)
 have HW:=qh hown'
 clear hown' hgrow hC2;go_wp2;go_ret;refine⟨w4.heap.size,_,rfl,hu.size,World.rowIs_alloc w4 _ _ _ (fun i hi=>?_),own_up HW.out (Up.alloc _ _),hu.allocs _⟩
 match i,hi with
 | 0,_=>rfl
 | 1,_=>rfl
 | 2,_=>rfl
 | 3,_=>rfl
 | 4,_=>rfl
end Go.Proofs.YtaoplcclemckjaaGreatDoor
