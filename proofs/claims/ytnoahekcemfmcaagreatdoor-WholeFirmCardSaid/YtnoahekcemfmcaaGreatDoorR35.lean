/- A part of the walk: Vf Vn Vo. -/
import Derived.Test.YtnoahekcemfmcaaGreatDoorR34
import Derived.Shelf.SlSortCmp.Whole1
import Derived.Sort.OwnSortedInts
namespace Go.Proofs.YtnoahekcemfmcaaGreatDoor
set_option linter.unusedVariables false
set_option linter.unusedSimpArgs false
set_option maxHeartbeats 80000000
set_option maxRecDepth 100000
section
open Go.RowKit
def respF (nx:Int → Int) (D:Int):Nat → Int → Int × Bool
 | 0,_=>(0,false)
 | f + 1,t=>if D < nx t then (0,false) else if nx t = t then (t,true) else respF nx D f (nx t)
theorem respF_fix {nx:Int → Int} {D:Int} (f:Nat) (t:Int) (h:(respF nx D f t).2 = true):nx (respF nx D f t).1 = (respF nx D f t).1 ∧ (respF nx D f t).1 ≤ D:=by
 induction f generalizing t with
 | zero=>cases h
 | succ f ih =>
  unfold respF at h ⊢
  by_cases h1:D < nx t
  ·rw [if_pos h1] at h;cases h
  ·rw [if_neg h1] at h ⊢
   by_cases h2:nx t = t
   ·rw [if_pos h2];exact ⟨h2,by show t ≤ D;omega⟩
   ·rw [if_neg h2] at h ⊢;exact ih _ h
theorem mostI_mono {b g x y:Int} (hb:1 ≤ b) (hg:1 ≤ g) (hx:0 ≤ x) (h:x ≤ y):mostI x b g ≤ mostI y b g:=by
 unfold mostI
 by_cases h1:x = 0
 ·rw [if_pos h1]
  split
  ·exact Int.le_refl _
  ·exact Int.ediv_nonneg (by omega) (by omega)
 ·rw [if_neg h1,if_neg (by omega)]
  exact Int.ediv_le_ediv (by omega) (by omega)
theorem nextW_mono {tk:Nat → Tk} {n i:Nat} {b g ah de x y:Int} (hok:∀ k,k < n → (tk k).Ok) (hb:1 ≤ b) (hg:1 ≤ g) (hd:0 ≤ de) (hx:0 ≤ x) (h:x ≤ y):nextW tk n i b g ah de x ≤ nextW tk n i b g ah de y:=by
 have h1:S (fun k=>if (tk k).Prio < (tk i).Prio then ceilI x (tk k).T * wholeT (tk k) else 0) n ≤ S (fun k=>if (tk k).Prio < (tk i).Prio then ceilI y (tk k).T * wholeT (tk k) else 0) n:=by
  have:∀ m,m ≤ n → S (fun k=>if (tk k).Prio < (tk i).Prio then ceilI x (tk k).T * wholeT (tk k) else 0) m ≤ S (fun k=>if (tk k).Prio < (tk i).Prio then ceilI y (tk k).T * wholeT (tk k) else 0) m:=by
   intro m hm
   induction m with
   | zero=>exact Int.le_refl _
   | succ m ih =>
    have hr:=ih (by omega)
    unfold S
    have ht:=hok m (by omega)
    have hT:1 ≤ (tk m).T:=by have:=ht.c1;have:=ht.cd;have:=ht.dt;omega
    split
    ·have hc:ceilI x (tk m).T ≤ ceilI y (tk m).T:=by unfold ceilI;exact Int.ediv_le_ediv (by omega) (by omega)
     have:=Int.mul_le_mul_of_nonneg_right hc (whole_bd ht).1
     omega
    ·omega
  exact this n (Nat.le_refl _)
 have h2:b * de * mostI x b g ≤ b * de * mostI y b g:=Int.mul_le_mul_of_nonneg_left (mostI_mono hb hg hx h) (Int.mul_nonneg (by omega) hd)
 unfold nextW
 omega
theorem nextW_nonneg {tk:Nat → Tk} {n i:Nat} {b g ah de x:Int} (hok:∀ k,k < n → (tk k).Ok) (hi:i < n) (hb:1 ≤ b) (hg:1 ≤ g) (ha:0 ≤ ah) (hd:0 ≤ de) (hx:0 ≤ x):0 ≤ nextW tk n i b g ah de x:=by
 have h1:∀ m,m ≤ n → 0 ≤ S (fun k=>if (tk k).Prio < (tk i).Prio then ceilI x (tk k).T * wholeT (tk k) else 0) m:=by
  intro m hm
  induction m with
  | zero=>exact Int.le_refl _
  | succ m ih =>
   have hr:=ih (by omega)
   unfold S
   have ht:=hok m (by omega)
   have hT:1 ≤ (tk m).T:=by have:=ht.c1;have:=ht.cd;have:=ht.dt;omega
   split
   ·have hc:0 ≤ ceilI x (tk m).T:=by unfold ceilI;exact Int.ediv_nonneg (by omega) (by omega)
    have:=Int.mul_nonneg hc (whole_bd ht).1
    omega
   ·omega
 have h2:0 ≤ mostI x b g:=by
  unfold mostI
  split
  ·exact Int.le_refl _
  ·exact Int.ediv_nonneg (by omega) (by omega)
 have h3:=Int.mul_nonneg (Int.mul_nonneg (by omega:(0:Int) ≤ b) hd) h2
 have h4:=(whole_bd (hok i hi)).1
 have h5:=h1 n (Nat.le_refl _)
 unfold nextW
 omega
def nxF (tk:Nat → Tk) (n:Nat) (bu:Int) (i:Nat) (g t:Int):Int:=nextW tk n i bu g (aheadS tk n i) (dearS tk n i) t
def respS (tk:Nat → Tk) (n:Nat) (bu:Int) (i:Nat) (g:Int):Int × Bool:=respF (nxF tk n bu i g) (tk i).D ((tk i).D.toNat + 2) 0
theorem resp_any (B:Nat) (bu:Int) (a:Option Addr) (n c:Nat) (tk:Nat → Tk) (i:Nat) (g:Int) (w:World) (hS:SetOk bu n tk) (hx:TksIn B w a n tk) (hB:B ≤ w.heap.size) (hi:i < n) (hg:1 ≤ g) (hg2:g ≤ 1049576) :
  Calls Tryz.prog 48 #[.agg #[.int .i64 bu,.slice a n c],.int .i64 i,.int .i64 g] w fun e w'=>e = .returned (.tuple #[.int .i64 (respS tk n bu i g).1,.bool (respS tk n bu i g).2]) ∧ Below w.heap.size w w':=by
 have hb0:=bel_alloc (Below.refl w.heap.size w) (.cells #[.int .i64 bu,.slice a n c] 24)
 have hbox0:=cell_newb w #[.int .i64 bu,.slice a n c] 24 _ 0 _ rfl rfl
 have hbox1:=cell_newb w #[.int .i64 bu,.slice a n c] 24 _ 1 _ rfl rfl
 have hsz:=one_lt w (.cells #[.int .i64 bu,.slice a n c] 24)
 have HB0:=Lib.hid hb0
 have hok:=hS.ok i hi
 have hD:1 ≤ (tk i).D ∧ (tk i).D ≤ 1048576:=by have:=hok.c1;have:=hok.cd;have:=hok.dt;have:=hok.tm;omega
 have hn16:=hS.n2
 have hiI:(i:Int) < (n:Int):=by omega
 have hi0:(0:Int) ≤ (i:Int):=by omega
 obtain ⟨b,off,rfl,hbB,hcc⟩:=hx (by omega)
 have hcd:(w.alloc (.cells #[.int .i64 bu,.slice (some ⟨b,off,none⟩) n c] 24)).cell? ⟨b,off + i * 11 + 2,none⟩ = some (.int .i64 (tk i).D):=cell_bel hb0 (hcc i hi 2 _ rfl)
 have HN:Hid (∀ W,Below w.heap.size w W → ∀ t,0 ≤ t → t ≤ 1048576 → Calls Tryz.prog 82 #[.agg #[.int .i64 bu,.slice (some ⟨b,off,none⟩) n c],.int .i64 i,.int .i64 g,.int .i64 t] W fun e w'=>e = .returned (.tuple #[.int .i64 (nxF tk n bu i g t),.bool true]) ∧ Below W.heap.size W w'):=fun W hW t h0 h1 =>
  next_any B bu _ n c tk i g t W hS (hx.keep (hW.mono hB)) (by have:=hW.size;omega) hi hg hg2 h0 h1
 have HMO:Hid (∀ x y,0 ≤ x → x ≤ y → nxF tk n bu i g x ≤ nxF tk n bu i g y):=fun x y h0 h1=>nextW_mono hS.ok hS.b1 hg (dear_bd hS.ok i).1 h0 h1
 have HNN:Hid (∀ x,0 ≤ x → 0 ≤ nxF tk n bu i g x):=fun x h0=>nextW_nonneg hS.ok hi hS.b1 hg (ahead_bd hS.ok i).1 (dear_bd hS.ok i).1 h0
 unfold respS
 generalize nxF tk n bu i g = nx at HN HMO HNN ⊢
 obtain ⟨D,hDD⟩:∃ D,(tk i).D = D:=⟨_,rfl⟩
 rw [hDD] at hD hcd ⊢
 clear hx hb0 hcc hS hok hDD
 go_enter Tryz.func48,Tryz.ntmps48
 go_wp2_with fail
 generalize w.alloc (.cells #[.int .i64 bu,.slice (some ⟨b,off,none⟩) n c] 24) = w1 at hbox0 hbox1 hsz HB0 hcd ⊢
 go_loopw [8,9,10,19,32] (fun s8 s9 s10 s19 s32 wx=>∃ (t:Int) (f:Nat),s8 = .int .i64 t ∧ 0 ≤ t ∧ t ≤ D ∧ Hid (t ≤ nx t) ∧ Hid (D - t + 1 < (f:Int)) ∧ Hid (respF nx D (D.toNat + 2) 0 = respF nx D f t) ∧ Hid (Below w1.heap.size w1 wx)) (fun s8 _ _ _ _ _=>(D - intOf s8).toNat)
 case atStart=>exact ⟨0,D.toNat + 2,rfl,by omega,by omega,HNN.out 0 (by omega),by show _ < _;omega,rfl,Below.refl _ _⟩
 case round =>
  obtain ⟨t,f,rfl,ht0,htD,HLE,HF,HEQ,HB⟩:=hrel
  obtain ⟨f',rfl⟩:∃ f',f = f' + 1:=⟨f - 1,by have:=HF.out;omega⟩
  have hb0':=cell_bel HB.out hbox0
  have hb1':=cell_bel HB.out hbox1
  have hcd':=cell_bel HB.out hcd
  have HC:=Lib.hid (HN.out wr (HB0.out.trans (HB.out.mono HB0.out.size)) t ht0 (by omega))
  have hnn:=HNN.out t ht0
  have hmo:=HMO.out t (nx t) ht0 HLE.out
  have hle:=HLE.out
  have hfn:=HF.out
  have HST:Hid (respF nx D (f' + 1) t = if D < nx t then (0,false) else if nx t = t then (t,true) else respF nx D f' (nx t)):=rfl
  have HMN:=Lib.hid hmo
  have HFN:=Lib.hid hfn
  obtain ⟨m,hm⟩:∃ m,nx t = m:=⟨_,rfl⟩
  rw [hm] at HC HST HMN hnn hle
  clear hm hmo hfn HF HLE
  by_cases h1:D < m
  ·have d1:decide (D < m) = true:=decide_eq_true h1
   have HR:Hid (respF nx D (f' + 1) t = (0,false)):=by
    show _ = _
    rw [HST.out,if_pos h1]
   clear HST h1
   go_wp2_with (go_at_call 82;refine HC.out.mono ?_;rintro e w5 ⟨rfl,hq5⟩;have HB5:=Lib.hid (HB.out.trans (hq5.mono HB.out.size));have hb5':=cell_bel hq5 hb1';have hcd5:=cell_bel hq5 hcd';clear hq5 hb0' hb1' hcd' HC)
   go_ret2
   exact ⟨by rw [HEQ.out,HR.out];rfl,HB0.out.trans (HB5.out.mono HB0.out.size)⟩
  ·have d1:decide (D < m) = false:=decide_eq_false h1
   by_cases h2:m = t
   ·have d2:(m == t) = true:=beq_iff_eq.2 h2
    have HR:Hid (respF nx D (f' + 1) t = (t,true)):=by
     show _ = _
     rw [HST.out,if_neg h1,if_pos h2]
    clear HST h1 h2
    go_wp2_with (go_at_call 82;refine HC.out.mono ?_;rintro e w5 ⟨rfl,hq5⟩;have HB5:=Lib.hid (HB.out.trans (hq5.mono HB.out.size));have hb5':=cell_bel hq5 hb1';have hcd5:=cell_bel hq5 hcd';clear hq5 hb0' hb1' hcd' HC)
    go_ret2
    exact ⟨by rw [HEQ.out,HR.out];rfl,HB0.out.trans (HB5.out.mono HB0.out.size)⟩
   ·have d2:(m == t) = false:=beq_eq_false_iff_ne.2 h2
    have HR:Hid (respF nx D (f' + 1) t = respF nx D f' m):=by
     show _ = _
     rw [HST.out,if_neg h1,if_neg h2]
    have hmt:t < m:=by omega
    have HMD:Hid (m ≤ D):=by show _ ≤ _;omega
    clear HST h1 h2
    go_wp2_with (go_at_call 82;refine HC.out.mono ?_;rintro e w5 ⟨rfl,hq5⟩;have HB5:=Lib.hid (HB.out.trans (hq5.mono HB.out.size));have hb5':=cell_bel hq5 hb1';have hcd5:=cell_bel hq5 hcd';clear hq5 hb0' hb1' hcd' HC)
    go_roundw
    case rel=>exact ⟨m,f',by simp,hnn,HMD.out,HMN.out,by have:=HFN.out;show _ < _;omega,by show _ = _;rw [HEQ.out,HR.out],HB5.out⟩
    case measure=>have:=HMD.out;simp [intOf];omega
end
end Go.Proofs.YtnoahekcemfmcaaGreatDoor
namespace Go.Proofs
def Tryz.sortInt_ren:Go.Shelf.Ren:=⟨fun | 6=>79 | 15=>111 | 14=>110 | 28=>162 | 29=>163 | 20=>154 | 21=>155 | 22=>156 | 23=>157 | 24=>158 | 25=>159 | 26=>160 | 27=>161 | 46=>188 | 47=>189 | 48=>190 | 49=>191 | 50=>192 | 57=>212 | n=>n,fun | 22=>28 | 24=>3 | 25=>180 | 3=>3 | 39=>82 | 0=>0 | 53=>117 | 55=>223 | 4=>4 | 46=>253 | 45=>252 | 50=>111 | 5=>5 | 9=>9 | 66=>285 | 70=>271 | 76=>303 | 77=>83 | n=>n,fun | n=>n⟩
theorem Tryz.sortInt:Go.Proofs.SlLaysF.n6 Tryz.prog Tryz.sortInt_ren:={
 mixed:=by kernel_rfl,
 f6:=⟨Tryz.f79.name,by decide,Tryz.func79.trans (congrArg some (by kernel_rfl))⟩,
 f14:=⟨Tryz.f110.name,by decide,Tryz.func110.trans (congrArg some (by kernel_rfl))⟩,
 f15:=Tryz.func111.trans (congrArg some (by kernel_rfl)),
 f20:=⟨Tryz.f154.name,by decide,Tryz.func154.trans (congrArg some (by kernel_rfl))⟩,
 f21:=⟨Tryz.f155.name,by decide,Tryz.func155.trans (congrArg some (by kernel_rfl))⟩,
 f22:=⟨Tryz.f156.name,by decide,Tryz.func156.trans (congrArg some (by kernel_rfl))⟩,
 f23:=⟨Tryz.f157.name,by decide,Tryz.func157.trans (congrArg some (by kernel_rfl))⟩,
 f24:=⟨Tryz.f158.name,by decide,Tryz.func158.trans (congrArg some (by kernel_rfl))⟩,
 f25:=⟨Tryz.f159.name,by decide,Tryz.func159.trans (congrArg some (by kernel_rfl))⟩,
 f26:=⟨Tryz.f160.name,by decide,Tryz.func160.trans (congrArg some (by kernel_rfl))⟩,
 f27:=⟨Tryz.f161.name,by decide,Tryz.func161.trans (congrArg some (by kernel_rfl))⟩,
 f28:=Tryz.func162.trans (congrArg some (by kernel_rfl)),
 f29:=Tryz.func163.trans (congrArg some (by kernel_rfl)),
 f46:=⟨Tryz.f188.name,by decide,Tryz.func188.trans (congrArg some (by kernel_rfl))⟩,
 f47:=Tryz.func189.trans (congrArg some (by kernel_rfl)),
 f48:=Tryz.func190.trans (congrArg some (by kernel_rfl)),
 f49:=⟨Tryz.f191.name,by decide,Tryz.func191.trans (congrArg some (by kernel_rfl))⟩,
 f50:=⟨Tryz.f192.name,by decide,Tryz.func192.trans (congrArg some (by kernel_rfl))⟩,
 f57:=⟨Tryz.f212.name,by decide,Tryz.func212.trans (congrArg some (by kernel_rfl))⟩,
 t0:=Tryz.underlying0,
 a0:=Tryz.isAgg0,
 z0:=Tryz.sizeOf0,
 v0:=Tryz.zeroValue0,
 t3:=Tryz.underlying3,
 a3:=Tryz.isAgg3,
 z3:=Tryz.sizeOf3,
 v3:=Tryz.zeroValue3,
 t4:=Tryz.underlying4,
 a4:=Tryz.isAgg4,
 z4:=Tryz.sizeOf4,
 v4:=Tryz.zeroValue4,
 t5:=Tryz.underlying5,
 a5:=Tryz.isAgg5,
 z5:=Tryz.sizeOf5,
 v5:=Tryz.zeroValue5,
 t9:=Tryz.underlying9,
 a9:=Tryz.isAgg9,
 z9:=Tryz.sizeOf9,
 v9:=Tryz.zeroValue9,
 t22:=Tryz.underlying28,
 a22:=Tryz.isAgg28,
 z22:=Tryz.sizeOf28,
 v22:=Tryz.zeroValue28,
 a24:=Tryz.isAgg3,
 z24:=Tryz.sizeOf3,
 t25:=Tryz.underlying180,
 a25:=Tryz.isAgg180,
 z25:=Tryz.sizeOf180,
 v25:=Tryz.zeroValue180,
 t39:=Tryz.underlying82,
 a39:=Tryz.isAgg82,
 z39:=Tryz.sizeOf82,
 v39:=Tryz.zeroValue82,
 t45:=Tryz.underlying252,
 a45:=Tryz.isAgg252,
 z45:=Tryz.sizeOf252,
 v45:=Tryz.zeroValue252,
 t46:=Tryz.underlying253,
 a46:=Tryz.isAgg253,
 z46:=Tryz.sizeOf253,
 v46:=Tryz.zeroValue253,
 t50:=Tryz.underlying111,
 a50:=Tryz.isAgg111,
 z50:=Tryz.sizeOf111,
 v50:=Tryz.zeroValue111,
 t53:=Tryz.underlying117,
 a53:=Tryz.isAgg117,
 z53:=Tryz.sizeOf117,
 v53:=Tryz.zeroValue117,
 t55:=Tryz.underlying223,
 a55:=Tryz.isAgg223,
 z55:=Tryz.sizeOf223,
 v55:=Tryz.zeroValue223,
 t66:=Tryz.underlying285,
 a66:=Tryz.isAgg285,
 z66:=Tryz.sizeOf285,
 v66:=Tryz.zeroValue285,
 t70:=Tryz.underlying271,
 a70:=Tryz.isAgg271,
 z70:=Tryz.sizeOf271,
 v70:=Tryz.zeroValue271,
 t76:=Tryz.underlying303,
 a76:=Tryz.isAgg303,
 z76:=Tryz.sizeOf303,
 v76:=Tryz.zeroValue303,
 t77:=Tryz.underlying83,
 a77:=Tryz.isAgg83,
 z77:=Tryz.sizeOf83,
 v77:=Tryz.zeroValue83 }
end Go.Proofs
namespace Go.Proofs.YtnoahekcemfmcaaGreatDoor
open Go.RowKit Go.Shelf Go.Lib Go.Sort
set_option linter.unusedVariables false
set_option maxHeartbeats 1000000 in
theorem prio_cmp (bx:Nat) (b off n c:Nat) (tk:Nat → Tk) (i j:Nat) (w:World) (h1:w.cell? ⟨bx,1,none⟩ = some (.slice (some ⟨b,off,none⟩) n c)) (hr:∀ k,k < n → w.cell? ⟨b,off + k * 11 + 10,none⟩ = some (.int .i64 (tk k).Prio)) (hi:i < n) (hj:j < n) :
  Calls Tryz.prog 80 #[.int .i64 i,.int .i64 j,.pointer (some ⟨bx,0,none⟩)] w fun e w'=>e = .returned (.int .i64 (cmp3 (tk i).Prio (tk j).Prio)) ∧ ∃ q os',w' = grow (w.drewN q) os':=by
 have hiI:(i:Int) < (n:Int):=by omega
 have hjI:(j:Int) < (n:Int):=by omega
 have hi0:(0:Int) ≤ (i:Int):=by omega
 have hj0:(0:Int) ≤ (j:Int):=by omega
 have ci:=hr i hi
 have cj:=hr j hj
 obtain ⟨x,hx⟩:∃ x,(tk i).Prio = x:=⟨_,rfl⟩
 obtain ⟨y,hy⟩:∃ y,(tk j).Prio = y:=⟨_,rfl⟩
 rw [hx] at ci
 rw [hy] at cj
 rw [hx,hy]
 have HC:=Lib.hid (compare_any x y)
 clear hr hx hy
 go_enter Tryz.func80,Tryz.ntmps80
 go_wp2_with fail
 go_quiet ((go_at_call 81;exact Calls.quiet_of_same ((HC.out _).mono fun _ _ h=>⟨h.1,h.2.symm⟩)))
 go_wp2_with fail
 go_ret
 exact ⟨rfl,nq,#[],by rw [grow_empty]⟩
end Go.Proofs.YtnoahekcemfmcaaGreatDoor
namespace Go.Proofs.YtnoahekcemfmcaaGreatDoor
set_option linter.unusedVariables false
set_option linter.unusedSimpArgs false
section
open Go.RowKit
section
open Go.Sort Go.Lib Go.Shelf
def encF (m:Nat) (x:Fin (m + 1)):Value:=.int .i64 (x.val:Int)
theorem oneF (m:Nat):OneCell (encF m):=fun x=>rfl
theorem putCells_fin (m:Nat) (d:Array (Fin (m + 1))) (cur:Array Value):putCells (encF m) 0 d cur = putCells (Value.int .i64) 0 (d.map fun x=>(x.val:Int)) cur:=by
 apply Array.ext
 ·simp [putCells]
 ·intro i h1 h2
  simp only [putCells,Array.getElem_mapIdx,Array.size_map,Nat.zero_add,Nat.zero_le,true_and,Nat.sub_zero]
  split
  ·rename_i h
   rw [getElem!_pos d i h,getElem!_pos (d.map _) i (by simpa using h)]
   simp [encF]
  ·rfl
theorem putRow_fin (m:Nat) (w:World) (g:Nat) (d:Array (Fin (m + 1))):putRow (encF m) w g 0 d = putRow (Value.int .i64) w g 0 (d.map fun x=>(x.val:Int)):=by
 unfold putRow
 congr 1
 funext cur
 exact putCells_fin m d cur
theorem lt_prio (m:Nat) (f:Fin (m + 1) → Int) (x y:Fin (m + 1)):ltOf (fun x y=>cmp3 (f x) (f y)) x y = decide (f x < f y):=by
 unfold ltOf cmp3
 by_cases h:f x < f y
 ·simp [h]
 ·by_cases h2:f y < f x <;> simp [h,h2]
theorem swo_prio (m:Nat) (f:Fin (m + 1) → Int):SWO (ltOf fun x y=>cmp3 (f x) (f y)) where
 irrefl x:=by rw [lt_prio];simp
 trans x y z h1 h2:=by rw [lt_prio] at *;simp at *;omega
 ntrans x y z h1 h2:=by rw [lt_prio] at *;simp at *;omega
theorem fr_sorted {w:World} {g q:Nat} {os:Array Obj} (d:Array Int):Fr (fun k=>k = g) w (grow (putRow (Value.int .i64) (Sort.ahead w q) g 0 d) os):=by
 refine ⟨rfl,rfl,rfl,by simp,fun k hk hne=>?_⟩
 rw [heap_grow_old _ _ (by simpa using hk)]
 have:g ≠ k:=fun e=>hne e.symm
 simp [putRow,mapBlock,Sort.ahead,Array.getElem?_modify,this]
theorem sort_prio (m B:Nat) (bx b off c:Nat) (tk:Nat → Tk) (cap g:Nat) (w:World) (hown:w.ownsRow B 3 1 (.slice (some ⟨g,0,none⟩) (m + 1) cap) (m + 1) ((List.range (m + 1)).map fun k=>.int .i64 (k:Nat)))
  (h1:w.cell? ⟨bx,1,none⟩ = some (.slice (some ⟨b,off,none⟩) (m + 1) c)) (hr:∀ k,k < m + 1 → w.cell? ⟨b,off + k * 11 + 10,none⟩ = some (.int .i64 (tk k).Prio)) (hbx:bx ≠ g) (hb:b ≠ g) (hm:m ≤ 100) :
  Calls Tryz.prog 79 #[.slice (some ⟨g,0,none⟩) (m + 1) cap,.func (.func 80) #[] #[.pointer (some ⟨bx,0,none⟩)]] w fun e w'=>e = .returned (.tuple #[]) ∧
   ∃ l:List Nat,l.Perm (List.range (m + 1)) ∧ w'.ownsRow B 3 1 (.slice (some ⟨g,0,none⟩) (m + 1) cap) (m + 1) (l.map fun k=>.int .i64 (k:Nat)) ∧ Fr (fun k=>k = g) w w':=by
 obtain ⟨_,h2⟩:=hown
 rcases h2 with ⟨hv,_⟩ | ⟨g',cap',cur,hv,hbB,hh,hc,hm2,hs,ht⟩
 ·cases hv
 cases hv
 have hg:g < w.heap.size:=(Array.getElem?_eq_some_iff.1 hh).1
 let d:Array (Fin (m + 1)):=Array.ofFn fun i=>i
 have hds:d.size = m + 1:=by simp [d]
 have hH:Holds (encF m) w g 0 d:=by
  intro j hj
  rw [hds] at hj
  refine ⟨?_,by simp [World.frozen?,hh]⟩
  have e1:(cur.toList.take ((m + 1) * 1))[j]? = ((List.range (m + 1)).map fun k:Nat=>(Value.int .i64 (k:Nat)))[j]?:=by rw [ht]
  rw [List.getElem?_take_of_lt (by omega)] at e1
  simp only [World.cell?,hh,Nat.zero_add]
  simp only [Option.isSome_none,Bool.false_eq_true,if_false]
  rw [← Array.getElem?_toList,e1,getElem!_pos d j (by rw [hds];exact hj)]
  simp [encF,d,hj]
 have eg:∀ args w,(callFunc 80 args).run Tryz.prog w = .ok (.enter 80 args) w:=enters_of Tryz.func80 (by kernel_rfl) rfl
 have hL:CmpLays1 Tryz.prog 80 #[.pointer (some ⟨bx,0,none⟩)] (encF m) (fun x y=>cmp3 (tk x.val).Prio (tk y.val).Prio) g 0 d.size w:=by
  intro q os dk hdk x y
  have hfr:Fr (fun k=>k = g) w (sortWorld (encF m) w g 0 q dk os):=by
   unfold sortWorld
   rw [putRow_fin]
   exact fr_sorted _
  exact prio_cmp bx b off (m + 1) c tk x.val y.val _ ((hfr.cell (p:=⟨bx,1,none⟩) (block_lt h1) hbx).trans h1) (fun k hk=>(hfr.cell (p:=⟨b,off + k * 11 + 10,none⟩) (block_lt (hr k hk)) hb).trans (hr k hk)) x.isLt y.isLt
 have hcon:=Any.slices_SortFunc Tryz.sortInt (encF m) (oneF m) (fun x y=>cmp3 (tk x.val).Prio (tk y.val).Prio) (swo_prio m fun x=>(tk x.val).Prio) 80 #[.pointer (some ⟨bx,0,none⟩)] g 0 cap d w eg hL hH hg (by omega)
 rw [hds] at hcon
 change Calls Tryz.prog 79 _ _ _ at hcon
 refine hcon.mono ?_
 rintro e w' ⟨rfl,d',q,os,hp,hso,rfl⟩
 have hsize:d'.size = m + 1:=by have:=hp.1;omega
 have hperm:(d'.toList.map fun x=>x.val).Perm (List.range (m + 1)):=by
  have:=hp.2.2
  have x1:d'.extract 0 (m + 1) = d':=Array.extract_eq_self_of_le (by omega)
  have x2:d.extract 0 (m + 1) = d:=Array.extract_eq_self_of_le (by omega)
  rw [x1,x2] at this
  have h3:=this.map fun x:Fin (m + 1)=>x.val
  refine List.Perm.trans ?_ (List.Perm.of_eq ?_) (l₂:=d.toList.map fun x=>x.val)
  ·first | exact h3 | exact h3.symm
  ·apply List.ext_getElem
   ·simp [d]
   ·intro i h1 h2;simp only [d,Array.toList_ofFn,List.getElem_map,List.getElem_ofFn,List.getElem_range]
 refine ⟨rfl,d'.toList.map fun x=>x.val,hperm,?_,?_⟩
 ·unfold sortWorld
  rw [putRow_fin]
  have:=ownsRow_sortedI (w:=w) (base:=B) (g:=g) (cap:=cap) (n:=q) (e:=3) (os:=os) (cur:=cur) (ss:=d'.toList.map fun x=>(x.val:Int)) (ts:=d'.toList.map fun x=>(x.val:Int)) rfl hbB hh (by simp [hsize];omega) hm2 hs
  simp only [List.length_map,Array.length_toList,hsize,List.map_map] at this ⊢
  rw [← Array.toArray_toList (xs:=d'.map _)]
  have e:(fun k:Nat=>Value.int .i64 (k:Nat)) ∘ (fun x:Fin (m + 1)=>x.val) = (Value.int .i64) ∘ (fun x:Fin (m + 1)=>(x.val:Int)):=rfl
  rw [e]
  simpa using this
 ·unfold sortWorld
  rw [putRow_fin]
  exact fr_sorted _
end
theorem range_row (k:Nat):((List.range (k + 1)).map fun j=>(Value.int .i64 (j:Nat))) = ((List.range k).map fun j=>(Value.int .i64 (j:Nat))) ++ [.int .i64 (k:Nat)]:=by
 rw [List.range_succ,List.map_append];rfl
theorem order_any (B:Nat) (bu:Int) (a:Option Addr) (n c:Nat) (tk:Nat → Tk) (w:World) (hS:SetOk bu n tk) (hx:TksIn B w a n tk) (hB:B ≤ w.heap.size) :
  Calls Tryz.prog 47 #[.agg #[.int .i64 bu,.slice a n c]] w fun e w'=>∃ (b cp:Nat) (l:List Nat),e = .returned (.slice (some ⟨b,0,none⟩) n cp) ∧ l.Perm (List.range n) ∧ w'.ownsRow w.heap.size 3 1 (.slice (some ⟨b,0,none⟩) n cp) n (l.map fun k=>.int .i64 (k:Nat)) ∧ Below w.heap.size w w':=by
 have hb0:=bel_alloc (Below.refl w.heap.size w) (.cells #[.int .i64 bu,.slice a n c] 24)
 have hbox1:=Lib.hid (cell_newb w #[.int .i64 bu,.slice a n c] 24 _ 1 _ rfl rfl)
 have hc1:(w.alloc (.cells #[.int .i64 bu,.slice a n c] 24)).cell? ⟨w.heap.size,1,none⟩ = some (.slice a n c):=hbox1.out
 have hsz:=one_lt w (.cells #[.int .i64 bu,.slice a n c] 24)
 have hx1:=Lib.hid (hx.keep (hb0.mono hB))
 have HB0:=Lib.hid hb0
 have hn0:=hS.n1
 have hnI:(n:Int) ≤ 16:=by have:=hS.n2;omega
 obtain ⟨i3,ki3,kz31,kz32,kz33⟩:=info_parts Tryz.info3
 clear hx hb0 hS
 go_enter Tryz.func47,Tryz.ntmps47
 go_wp2_with fail
 generalize w.alloc (.cells #[.int .i64 bu,.slice a n c] 24) = w1 at hbox1 hc1 hsz hx1 HB0 ⊢
 go_loopw [8,3,4] (fun ix s3 s4 wx=>∃ k:Nat,k ≤ n ∧ ix = .int .i64 k ∧ Hid (wx.ownsRow w1.heap.size 3 1 s3 k ((List.range k).map fun j=>.int .i64 (j:Nat))) ∧ Hid (Below w1.heap.size w1 wx)) (fun ix _ _ _=>n - (intOf ix).toNat)
 case atStart=>exact ⟨0,Nat.zero_le _,rfl,World.ownsRow_nil _ _ _ _,Below.refl _ _⟩
 case round =>
  clear hc1
  obtain ⟨k,hk,rfl,HO,HB⟩:=hrel
  obtain ⟨a3,c3,h3⟩:=ownsRow_form HO.out
  subst h3
  by_cases hlt:k < n
  ·have hkI:(k:Int) < (n:Int):=by omega
   have hk0:(0:Int) ≤ (k:Int):=by omega
   have hdl:decide ((k:Int) < (n:Int)) = true:=decide_eq_true hkI
   have hws:=HB.out.size
   go_wp2_with (at_builtin;refine wpList_append_row rfl _ _ 28 rfl w1.heap.size 3 i3 _ 1 8 Tryz.underlying28 ki3 kz31 kz32 kz33 rfl (by omega) _ k ((List.range k).map fun j=>.int .i64 (j:Nat)) rfl (own_fr2 HO.out (Fr.of_below (S:=fun _=>False) (bel_alloc (Below.refl _ _) _)) (fun _ _ t=>t)) (.slice (some ⟨wr.heap.size,0,none⟩) 1 1) 1 [.int .i64 k] rfl rfl (.inr ⟨⟨wr.heap.size,0,none⟩,1,rfl,fun j u hu=>by obtain ⟨rfl,rfl⟩:=one_of hu;rw [add_none];exact cell_newb _ _ _ _ 0 _ (by simp) rfl⟩) (by simp [Value.oneCell']) (by unfold maxLen;omega) (by omega) (by simp;omega) ?_;intro v7 w7 own7 gr7 at7)
   have HN:Hid (w7.ownsRow w1.heap.size 3 1 v7 (k + 1) ((List.range (k + 1)).map fun j=>.int .i64 (j:Nat))):=by
    rw [range_row]
    exact own7
   have HB7:Hid (Below w1.heap.size w1 w7):=by
    have h1:Below w1.heap.size w1 (wr.alloc (.cells #[.int .i64 k] 3)):=HB.out.trans ((bel_alloc (Below.refl _ _) _).mono HB.out.size)
    exact Below.grown h1 gr7 (by simp;omega) (fun q e=>ownsRow_block HO.out q e)
   clear own7 gr7 at7
   go_wp2_with fail
   go_roundw
   case rel=>exact ⟨k + 1,by omega,by simp,HN,HB7⟩
   case measure=>simp [intOf];omega
  ·have hkn:k = n:=by omega
   subst hkn
   have hdl:decide ((k:Int) < (k:Int)) = false:=decide_eq_false (by omega)
   obtain ⟨g,hg⟩:∃ g,a3 = some ⟨g,0,none⟩ ∧ w1.heap.size ≤ g:=by
    rcases HO.out.2 with ⟨hv,h0⟩ | ⟨g,cap,cur,hv,hg,_⟩
    ·cases hv;omega
    ·cases hv;exact ⟨g,rfl,hg⟩
   obtain ⟨rfl,hgw⟩:=hg
   obtain ⟨b,off,rfl,hbB,hcc⟩:=hx1.out.keep (HB.out.mono (Nat.le_trans hB HB0.out.size)) (by omega)
   obtain ⟨m,rfl⟩:∃ m,k = m + 1:=⟨k - 1,by omega⟩
   have hs:=HB0.out.size
   have HS:=Lib.hid (sort_prio m w1.heap.size w.heap.size b off c tk c3 g wr HO.out (cell_bel HB.out hbox1.out) (fun j hj=>hcc j hj 10 _ rfl) (by omega) (by omega) (by omega))
   clear hcc
   go_wp2_with (go_at_call 79;refine HS.out.mono ?_;rintro e w5 ⟨rfl,l,hp,ho,hf⟩;have HP:=Lib.hid (And.intro hp (And.intro ho hf));clear hp ho hf)
   go_ret
   obtain ⟨h1,h2,h3⟩:=HP.out
   have hb5:Below w.heap.size w w5:=(HB0.out.trans (HB.out.mono hs)).trans (h3.below (B:=w.heap.size) (fun i _ e=>by subst e;omega) (Nat.le_trans hs HB.out.size))
   refine ⟨g,c3,l,rfl,h1,?_,hb5⟩
   exact ownsRow_base h2 hs
end
end Go.Proofs.YtnoahekcemfmcaaGreatDoor
