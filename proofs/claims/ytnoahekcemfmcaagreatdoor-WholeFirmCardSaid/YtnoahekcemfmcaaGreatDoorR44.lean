/- A part of the walk: Lc Le Lf. -/
import Derived.Test.YtnoahekcemfmcaaGreatDoorR43
import Derived.Test.YtnoahekcemfmcaaGreatDoorR42
import Derived.Test.YtnoahekcemfmcaaGreatDoorR16
import Derived.Defers
import Derived.Laws.Pointers
import Derived.Laws.LoneSync
import Derived.RegionTactic
import Derived.RegionCalls
namespace Go.Proofs.YtnoahekcemfmcaaGreatDoor
set_option linter.unusedVariables false
set_option linter.unusedSimpArgs false
set_option maxHeartbeats 80000000
set_option maxRecDepth 100000
section
open Go.RowKit
theorem ints_own {w:World} {base:Nat} {v:Value} {xs:List Int} (h:w.ownsRow base 3 1 v xs.length (intsV xs)):∃ a c,v = .slice a xs.length c ∧ IntsIn w.heap.size w a xs.length xs:=by
 obtain ⟨a,c,rfl⟩:=ownsRow_form h
 refine ⟨a,c,rfl,rfl,fun h0=>?_⟩
 obtain ⟨g,cap,hv,hg1,hg2,hg3,hg4,hg5⟩:=ownsRow_cells h h0
 simp at hv
 obtain ⟨rfl,rfl⟩:=hv
 refine ⟨g,0,rfl,hg2,fun j hj=>?_⟩
 rw [Nat.zero_add]
 refine hg4 j _ ?_
 unfold intsV
 rw [List.getElem?_map,List.getElem?_eq_getElem hj]
 rfl
theorem faultsL_mem (σ:Nat → Bool) (k:Nat):∀ x ∈ faultsL σ k,0 ≤ x ∧ x ≤ k:=by
 induction k with
 | zero=>intro x hx;cases hx
 | succ k ih =>
  intro x hx
  unfold faultsL at hx
  split at hx
  ·rcases List.mem_append.1 hx with h | h
   ·have:=ih x h;omega
   ·simp at h;omega
  ·have:=ih x hx;omega
theorem slegal_ok (B:Nat) (bu:Int) (a:Option Addr) (n c:Nat) (tk:Nat → Tk) (g:Int) (ai:Option Addr) (ci:Nat) (l:List (List (Int × Int) × Bool)) (o:Nat → Nat → Nat → Int) (w:World) (hS:SetOk bu n tk) (hx:TksIn B w a n tk) (hi:InsIn B w ai l) (hB:B ≤ w.heap.size) (hnc:n ≤ c)
  (hg:1 ≤ g) (hg2:g ≤ 1049576) (hl:l.length ≤ 100000) (hr:∀ x ∈ l,x.1.length ≤ 100000) (hR:RelOk tk n l o) (hgap:g ≤ gapL bu (faultsL (hitOf l) l.length)) :
  Calls Tryz.prog 19 #[.agg #[.int .i64 bu,.slice a n c],.int .i64 g,.slice ai l.length ci] w fun e w'=>e = .returned (.bool true) ∧ Below w.heap.size w w':=by
 have hb0:=bel_alloc (Below.refl w.heap.size w) (.cells #[.int .i64 bu,.slice a n c] 24)
 have hbox0:=cell_newb w #[.int .i64 bu,.slice a n c] 24 _ 0 _ rfl rfl
 have hbox1:=cell_newb w #[.int .i64 bu,.slice a n c] 24 _ 1 _ rfl rfl
 have HR28:Hid (∀ W,Below w.heap.size w W → Calls Tryz.prog 28 #[.agg #[.int .i64 bu,.slice a n c]] W fun e w'=>e = .returned (.bool true) ∧ Below W.heap.size W w'):=fun W hW=>right_ok B bu a n c tk W hS (hx.keep (hW.mono hB)) (by have:=hW.size;omega) hnc
 have HREL:Hid (∀ W,Below w.heap.size w W → Calls Tryz.prog 43 #[.agg #[.int .i64 bu,.slice a n c],.slice ai l.length ci] W fun e w'=>e = .returned (.bool true) ∧ Below W.heap.size W w'):=fun W hW=>releases_ok B bu a n c tk ai ci l o W hS (hx.keep (hW.mono hB)) (hi.keep hB (Fr.of_below (S:=fun _=>False) hW) (fun _ _ t=>t)) (by have:=hW.size;omega) hnc hl hr hR
 have HFA:Hid (∀ W,Below w.heap.size w W → Calls Tryz.prog 45 #[.slice ai l.length ci] W fun e w'=>∃ a2 c2,e = .returned (.slice a2 (faultsL (hitOf l) l.length).length c2) ∧ IntsIn w'.heap.size w' a2 (faultsL (hitOf l) l.length).length (faultsL (hitOf l) l.length) ∧ Below W.heap.size W w'):=fun W hW =>
  (faults_any B ai ci l W (hi.keep hB (Fr.of_below (S:=fun _=>False) hW) (fun _ _ t=>t)) (by have:=hW.size;omega) hl).mono fun e w' ⟨v,he,ho,hb⟩=>by
   obtain ⟨a2,c2,rfl,h2⟩:=ints_own ho
   exact ⟨a2,c2,he,h2,hb⟩
 have HLE:Hid (∀ W a2 c2,IntsIn W.heap.size W a2 (faultsL (hitOf l) l.length).length (faultsL (hitOf l) l.length) → Calls Tryz.prog 44 #[.slice a2 (faultsL (hitOf l) l.length).length c2,.int .i64 bu,.int .i64 g] W fun e w'=>e = .returned (.bool true) ∧ Below W.heap.size W w'):=fun W a2 c2 h2 =>
  (blegal_any _ a2 _ c2 _ bu g W h2 (Nat.le_refl _) (by have:=faultsL_len (hitOf l) l.length;omega) (fun x hx=>by have:=faultsL_mem (hitOf l) l.length x hx;omega) hS.b1 hS.b2).mono fun e w' ⟨he,hb⟩=>⟨by rw [he,decide_eq_true hgap],hb⟩
 have HB0:=Lib.hid hb0
 have d1:decide (g < 1) = false:=decide_eq_false (by omega)
 have d2:decide (1049576 < g) = false:=decide_eq_false (by omega)
 have d3:decide (100000 < (l.length:Int)) = false:=decide_eq_false (by omega)
 have d3':decide (100000 < l.length) = false:=decide_eq_false (by omega)
 generalize faultsL (hitOf l) l.length = fl at *
 clear hx hi hR hS hr hb0 hgap
 go_enter Tryz.func19,Tryz.ntmps19
 go_wp2_with (go_at_call 28;refine (HR28.out _ HB0.out).mono ?_;rintro e w2 ⟨rfl,hq2⟩;have HB2:=Lib.hid (HB0.out.trans (hq2.mono HB0.out.size));have x20:=cell_bel hq2 hbox0;have x21:=cell_bel hq2 hbox1;clear hq2)
 clear hbox0 hbox1 d1 d2 d3 d3'
 go_region_law (first | (go_simp;go_at_call 43;refine Calls.mono (by first | exact HREL.out _ HB2.out | exact HREL.out _ (bel_drew HB2.out) | exact HREL.out _ (bel_drewN HB2.out _)) ?_;rintro e w3 ⟨rfl,hq3⟩;have HB3:=Lib.hid (HB2.out.trans (show Below w.heap.size w2 w3 from ⟨hq3.os,hq3.tape,hq3.output,hq3.size,fun k hk=>hq3.block k (Nat.lt_of_lt_of_le hk HB2.out.size)⟩));have x30:=cell_bel hq3 x20;have x31:=cell_bel hq3 x21;clear hq3) | (go_simp;go_at_call 45;refine Calls.mono (HFA.out _ HB3.out) ?_;rintro e w4 ⟨a2,c2,rfl,hI4,hq4⟩;have HB4:=Lib.hid (HB3.out.trans (hq4.mono HB3.out.size));have HI4:=Lib.hid hI4;have x40:=cell_bel hq4 x30;clear hq4 hI4) | (go_simp;go_at_call 44;refine Calls.mono (HLE.out _ a2 c2 HI4.out) ?_;rintro e w5 ⟨rfl,hq5⟩;have HB5:=Lib.hid (HB4.out.trans (hq5.mono HB4.out.size));clear hq5))
 all_goals
  go_simp
  go_wp2_with fail
  go_ret
  exact ⟨rfl,HB5.out⟩
end
section
open Go.RowKit
section
variable {b off:Nat} {w:World} {R:World → Prop}
theorem slow86 (c0:Value) (h0:w.cell? ⟨b,off,none⟩ = some (.int .u32 0)) (h1:w.cell? ⟨b,off + 1,none⟩ = some (.int .i32 0))
  (f0:w.frozen? ⟨b,off,none⟩ = false) (f1:w.frozen? ⟨b,off + 1,none⟩ = false)
  (hcl:Calls Tryz.prog 86 #[c0] (w.setCell ⟨b,off + 1,none⟩ (.int .i32 1)) fun e w'=>e = .returned (.tuple #[]) ∧ R w' ∧ KeepsOnce b off w w') :
  Calls Tryz.prog 124 #[.pointer (some ⟨b,off,none⟩),.func (.func 86) #[] #[c0]] w fun e w'=>e = .returned (.tuple #[]) ∧
   ∃ w1,R w1 ∧ KeepsOnce b off w w1 ∧ w' = (w1.drew.setCell ⟨b,off,none⟩ (.int .u32 1)).setCell ⟨b,off + 1,none⟩ (.int .i32 0):=by
 have hl:=Lib.hid (bload_is ⟨b,off,none⟩ 0 (w.setCell ⟨b,off + 1,none⟩ (.int .i32 1)) ((World.cell?_setCell_other _ ⟨b,off + 1,none⟩ ⟨b,off,none⟩ _ (by simp)).trans h0) (r:=false) rfl)
 have hnot:∀ (x:Bool) (w:World),(Op.unary .not (.bool x)).run Tryz.prog w = .ok (.bool (!x)) w:=fun _ _=>rfl
 go_enter_defers Tryz.func124,Tryz.ntmps124
 go_wp2_with (first | (go_at_call 166;refine (lock_free ⟨b,off + 1,none⟩ _ (by go_simp) (by go_simp)).mono ?_;rintro e w' ⟨rfl,rfl⟩) | (go_at_call 123;refine hl.out.mono ?_;rintro e w' ⟨rfl,rfl⟩) | (go_at_call 86;refine hcl.mono ?_;rintro e w1 ⟨rfl,hR,hK⟩))
 obtain ⟨⟨x0,k0⟩,k1,z0,z1⟩:=hK
 unfold bodyPostD
 refine leaves_cons (f:=168) (args:=#[.pointer (some ⟨b,off,none⟩),.bool true]) (by simp) (by simp [go_sem]) ?_
 refine (store_deferred ⟨b,off,none⟩ x0 .returning _ k0 z0).mono ?_
 rintro e u' w'' ⟨rfl,rfl,rfl⟩
 refine leaves_cons (f:=167) (args:=#[.pointer (some ⟨b,off + 1,none⟩)]) (by simp [settle]) (by simp [go_sem]) ?_
 refine (unlock_deferred ⟨b,off + 1,none⟩ _ _ ?_ (by simp [z1])).mono ?_
 ·refine (World.cell?_setCell_other _ ⟨b,off,none⟩ ⟨b,off + 1,none⟩ _ (by simp)).trans ?_
  rw [World.cell?_drew]
  exact k1
 rintro e u' w'' ⟨rfl,rfl,rfl⟩
 simp [Leaves,settle,results,Tryz.results124]
 exact ⟨w1,hR,⟨⟨x0,k0⟩,k1,z0,z1⟩,rfl⟩
theorem do86 (c0:Value) (h0:w.cell? ⟨b,off,none⟩ = some (.int .u32 0)) (h1:w.cell? ⟨b,off + 1,none⟩ = some (.int .i32 0))
  (f0:w.frozen? ⟨b,off,none⟩ = false) (f1:w.frozen? ⟨b,off + 1,none⟩ = false)
  (hcl:Calls Tryz.prog 86 #[c0] (w.setCell ⟨b,off + 1,none⟩ (.int .i32 1)) fun e w'=>e = .returned (.tuple #[]) ∧ R w' ∧ KeepsOnce b off w w') :
  Calls Tryz.prog 85 #[.pointer (some ⟨b,off,none⟩),.func (.func 86) #[] #[c0]] w fun e w'=>e = .returned (.tuple #[]) ∧
   ∃ w1,R w1 ∧ KeepsOnce b off w w1 ∧ w' = (w1.drew.setCell ⟨b,off,none⟩ (.int .u32 1)).setCell ⟨b,off + 1,none⟩ (.int .i32 0):=by
 have hl:=Lib.hid (bload_is ⟨b,off,none⟩ 0 w h0 (r:=false) rfl)
 have HS:=Lib.hid (slow86 c0 h0 h1 f0 f1 hcl)
 have hnot:∀ (x:Bool) (w:World),(Op.unary .not (.bool x)).run Tryz.prog w = .ok (.bool (!x)) w:=fun _ _=>rfl
 clear hcl
 go_enter Tryz.func85,Tryz.ntmps85
 go_wp2_with (first | (go_at_call 123;refine hl.out.mono ?_;rintro e w' ⟨rfl,rfl⟩) | (go_at_call 124;refine HS.out.mono ?_;rintro e w' ⟨rfl,hx⟩))
 go_end0
 exact ⟨rfl,hx⟩
theorem do86_done (c0:Value) (h0:w.cell? ⟨b,off,none⟩ = some (.int .u32 1)) :
  Calls Tryz.prog 85 #[.pointer (some ⟨b,off,none⟩),.func (.func 86) #[] #[c0]] w fun e w'=>e = .returned (.tuple #[]) ∧ w' = w:=by
 have hl:=Lib.hid (bload_is ⟨b,off,none⟩ 1 w h0 (r:=true) rfl)
 have hnot:∀ (x:Bool) (w:World),(Op.unary .not (.bool x)).run Tryz.prog w = .ok (.bool (!x)) w:=fun _ _=>rfl
 go_enter Tryz.func85,Tryz.ntmps85
 go_wp2_with (go_at_call 123;refine hl.out.mono ?_;rintro e w' ⟨rfl,rfl⟩)
 go_end0
 exact ⟨rfl,rfl⟩
end
theorem textL_len:textL.length = 108:=by decide +kernel
theorem pset_stated (W:World) (tb tc:Nat) (hb:BytesIn W tb 0 textL) (hbl:tb < W.heap.size) (hc:textL.length ≤ tc) :
  Calls Tryz.prog 88 #[.slice (some ⟨tb,0,none⟩) textL.length tc] W fun e w'=>∃ b2 c2,e = .returned (.tuple #[.agg #[.int .i64 1,.slice (some ⟨b2,0,none⟩) 3 c2],.agg #[.int .i64 0,.int .i64 0,.int .i64 0]]) ∧ W.heap.size ≤ b2 ∧ TksIn w'.heap.size w' (some ⟨b2,0,none⟩) 3 tkS ∧ 3 ≤ c2 ∧ Below W.heap.size W w':=by
 have hS:SetOk (tokT 1).value 3 (fun j=>tkOf tokT (3 + 13 * j) (msS j)):=by
  rw [tok_burst]
  have e:=stated_tk
  have h:=stated_right
  exact ⟨h.b1,h.b2,h.n1,h.n2,fun i hi=>by rw [e i hi];exact h.nm i hi,fun i hi=>by rw [e i hi];exact h.ok i hi,fun i k hi hk=>by rw [e i hi,e k (by omega)];exact h.df i k hi hk,fun i k hi hk=>by rw [e i hi,e k (by omega)];exact h.pr i k hi hk⟩
 refine (pset_is hb hbl hc (by rw [textL_len];omega) lexed toks_at toks_len stated_toks (by omega) hS).mono ?_
 rintro e w' ⟨b2,c2,rfl,h1,h2,h3,h4⟩
 rw [tok_burst]
 refine ⟨b2,c2,rfl,h1,fun h0=>?_,h3,h4⟩
 obtain ⟨bb,oo,e1,e2,e3⟩:=h2 h0
 exact ⟨bb,oo,e1,e2,fun j hj=>by rw [← stated_tk j hj];exact e3 j hj⟩
theorem least_stated (W:World) (B b2 c2:Nat) (hx:TksIn B W (some ⟨b2,0,none⟩) 3 tkS) (hB:B ≤ W.heap.size) (hc:3 ≤ c2) :
  Calls Tryz.prog 9 #[.agg #[.int .i64 1,.slice (some ⟨b2,0,none⟩) 3 c2]] W fun e w'=>∃ late rb,e = .returned (.tuple #[.int .i64 6,.agg #[.bool true,.int .i64 late,.slice (some ⟨rb,0,none⟩) 3 3],.int .i64 0]) ∧ Below W.heap.size W w':=by
 refine (least_any B 1 _ 3 c2 tkS W stated_right hx hB hc).mono ?_
 rintro e w' ⟨late,rb,hb,_,h⟩
 rcases h with ⟨_,rfl,_⟩ | ⟨h,_⟩
 ·exact ⟨late,rb,by rw [leastS_stated];rfl,hb⟩
 ·rw [leastS_stated] at h;exact absurd h (by decide)
end
section
open Go.RowKit
structure AdL (w:World) (ab b2 c2:Nat):Prop where
 c5:w.cell? ⟨ab,5,none⟩ = some (.int .i64 1)
 c6:w.cell? ⟨ab,6,none⟩ = some (.slice (some ⟨b2,0,none⟩) 3 c2)
 c10:w.cell? ⟨ab,10,none⟩ = some (.int .i64 6)
 c14:w.cell? ⟨ab,14,none⟩ = some (.int .i64 0)
structure AdB (w:World) (ab:Nat):Prop where
 ex:∀ j,j < 15 → ∃ u,w.cell? ⟨ab,j,none⟩ = some u
 fz:∀ o,w.frozen? ⟨ab,o,none⟩ = false
theorem AdB.fr {S:Nat → Prop} {w w':World} {ab:Nat} (h:AdB w ab) (hf:Fr S w w') (hS:¬ S ab):AdB w' ab:=by
 obtain ⟨u,hu⟩:=h.ex 0 (by omega)
 have hl:=block_lt hu
 exact ⟨fun j hj=>by obtain ⟨v,hv⟩:=h.ex j hj;exact ⟨v,(hf.cell (p:=⟨ab,j,none⟩) hl hS).trans hv⟩,fun o=>(hf.frozen (p:=⟨ab,o,none⟩) hl hS).trans (h.fz o)⟩
theorem AdB.set {w:World} {ab:Nat} (h:AdB w ab) (j:Nat) (u:Value):AdB (w.setCell ⟨ab,j,none⟩ u) ab :=
 ⟨fun i hi=>by
  obtain ⟨v,hv⟩:=h.ex i hi
  by_cases e:i = j
  ·subst e;exact ⟨_,World.cell?_setCell_same _ _ _ hv⟩
  ·exact ⟨v,by rw [World.cell?_setCell_other _ _ _ _ (addr_ne (Ne.symm e))];exact hv⟩,fun o=>by rw [World.frozen?_setCell];exact h.fz o⟩
theorem AdB.get {w:World} {ab:Nat} (h:AdB w ab) (j:Nat) (u:Value) (hj:j < 15):(w.setCell ⟨ab,j,none⟩ u).cell? ⟨ab,j,none⟩ = some u:=by
 obtain ⟨v,hv⟩:=h.ex j hj;exact World.cell?_setCell_same _ _ _ hv
theorem get_ne {w:World} {ab i j:Nat} {u:Value} (h:i ≠ j):(w.setCell ⟨ab,j,none⟩ u).cell? ⟨ab,i,none⟩ = w.cell? ⟨ab,i,none⟩:=World.cell?_setCell_other _ _ _ _ (addr_ne (Ne.symm h))
theorem fr_set {a w:World} {ab:Nat} (h:Fr (fun q=>q = ab) a w) (j:Nat) (u:Value):Fr (fun q=>q = ab) a (w.setCell ⟨ab,j,none⟩ u):=h.setCell (p:=⟨ab,j,none⟩) rfl u
theorem ad_five {w:World} {ab:Nat} (h:AdB w ab) (v5 v6 v7 v8 v9:Value):Fr (fun q=>q = ab) w (((((w.setCell ⟨ab,5,none⟩ v5).setCell ⟨ab,6,none⟩ v6).setCell ⟨ab,7,none⟩ v7).setCell ⟨ab,8,none⟩ v8).setCell ⟨ab,9,none⟩ v9) ∧
  AdB (((((w.setCell ⟨ab,5,none⟩ v5).setCell ⟨ab,6,none⟩ v6).setCell ⟨ab,7,none⟩ v7).setCell ⟨ab,8,none⟩ v8).setCell ⟨ab,9,none⟩ v9) ab ∧
  (((((w.setCell ⟨ab,5,none⟩ v5).setCell ⟨ab,6,none⟩ v6).setCell ⟨ab,7,none⟩ v7).setCell ⟨ab,8,none⟩ v8).setCell ⟨ab,9,none⟩ v9).cell? ⟨ab,5,none⟩ = some v5 ∧
  (((((w.setCell ⟨ab,5,none⟩ v5).setCell ⟨ab,6,none⟩ v6).setCell ⟨ab,7,none⟩ v7).setCell ⟨ab,8,none⟩ v8).setCell ⟨ab,9,none⟩ v9).cell? ⟨ab,6,none⟩ = some v6 ∧
  ∀ j,j ≠ 5 → j ≠ 6 → j ≠ 7 → j ≠ 8 → j ≠ 9 → (((((w.setCell ⟨ab,5,none⟩ v5).setCell ⟨ab,6,none⟩ v6).setCell ⟨ab,7,none⟩ v7).setCell ⟨ab,8,none⟩ v8).setCell ⟨ab,9,none⟩ v9).cell? ⟨ab,j,none⟩ = w.cell? ⟨ab,j,none⟩ :=
 ⟨fr_set (fr_set (fr_set (fr_set (fr_set (Fr.refl _ w) 5 v5) 6 v6) 7 v7) 8 v8) 9 v9,((((h.set 5 v5).set 6 v6).set 7 v7).set 8 v8).set 9 v9,
  by rw [get_ne (by omega),get_ne (by omega),get_ne (by omega),get_ne (by omega)];exact h.get 5 v5 (by omega),by rw [get_ne (by omega),get_ne (by omega),get_ne (by omega)];exact (h.set 5 v5).get 6 v6 (by omega),
  fun j a b c d e=>by rw [get_ne e,get_ne d,get_ne c,get_ne b,get_ne a]⟩
theorem ad_five2 {w:World} {ab:Nat} (h:AdB w ab) (v5 v6 v7 v8 v9:Value):Fr (fun q=>q = ab) w (((((w.setCell ⟨ab,10,none⟩ v5).setCell ⟨ab,11,none⟩ v6).setCell ⟨ab,12,none⟩ v7).setCell ⟨ab,13,none⟩ v8).setCell ⟨ab,14,none⟩ v9) ∧
  (((((w.setCell ⟨ab,10,none⟩ v5).setCell ⟨ab,11,none⟩ v6).setCell ⟨ab,12,none⟩ v7).setCell ⟨ab,13,none⟩ v8).setCell ⟨ab,14,none⟩ v9).cell? ⟨ab,10,none⟩ = some v5 ∧
  (((((w.setCell ⟨ab,10,none⟩ v5).setCell ⟨ab,11,none⟩ v6).setCell ⟨ab,12,none⟩ v7).setCell ⟨ab,13,none⟩ v8).setCell ⟨ab,14,none⟩ v9).cell? ⟨ab,14,none⟩ = some v9 ∧
  (∀ o,(((((w.setCell ⟨ab,10,none⟩ v5).setCell ⟨ab,11,none⟩ v6).setCell ⟨ab,12,none⟩ v7).setCell ⟨ab,13,none⟩ v8).setCell ⟨ab,14,none⟩ v9).frozen? ⟨ab,o,none⟩ = false) ∧
  ∀ j,j < 10 → (((((w.setCell ⟨ab,10,none⟩ v5).setCell ⟨ab,11,none⟩ v6).setCell ⟨ab,12,none⟩ v7).setCell ⟨ab,13,none⟩ v8).setCell ⟨ab,14,none⟩ v9).cell? ⟨ab,j,none⟩ = w.cell? ⟨ab,j,none⟩ :=
 ⟨fr_set (fr_set (fr_set (fr_set (fr_set (Fr.refl _ w) 10 v5) 11 v6) 12 v7) 13 v8) 14 v9,
  by rw [get_ne (by omega),get_ne (by omega),get_ne (by omega),get_ne (by omega)];exact h.get 10 v5 (by omega),((((h.set 10 v5).set 11 v6).set 12 v7).set 13 v8).get 14 v9 (by omega),
  (((((h.set 10 v5).set 11 v6).set 12 v7).set 13 v8).set 14 v9).fz,
  fun j hj=>by rw [get_ne (by omega),get_ne (by omega),get_ne (by omega),get_ne (by omega),get_ne (by omega)]⟩
theorem lookc_is (w:World) (ab cb tb tc:Nat) (h0:w.cell? ⟨cb,0,none⟩ = some (.pointer (some ⟨ab,0,none⟩))) (hA:AdB w ab) (ht:w.cell? ⟨ab,0,none⟩ = some (.slice (some ⟨tb,0,none⟩) textL.length tc)) (h4:∃ v:Int,w.cell? ⟨ab,4,none⟩ = some (.int .i64 v))
  (hb:BytesIn w tb 0 textL) (hcap:textL.length ≤ tc) (n1:cb ≠ ab) (n2:tb ≠ ab) (hmu:w.cell? ⟨ab,2,none⟩ = some (.int .i32 1)) :
  Calls Tryz.prog 86 #[.pointer (some ⟨cb,0,none⟩)] w fun e w'=>e = .returned (.tuple #[]) ∧ (∃ b2 c2,AdL w' ab b2 c2 ∧ TksIn w'.heap.size w' (some ⟨b2,0,none⟩) 3 tkS ∧ 3 ≤ c2 ∧ w.heap.size ≤ b2) ∧ Fr (fun q=>q = ab) w w' ∧ (∀ o,w'.frozen? ⟨ab,o,none⟩ = false) ∧ KeepsOnce ab 1 w w':=by
 obtain ⟨v4,h4⟩:=h4
 have hal:=block_lt ht
 have hcl:=block_lt h0
 have htl:=block_lt (hb 0 (by rw [textL_len];omega))
 have HAD:=Lib.hid (aadd_is ⟨ab,4,none⟩ v4 w h4 (hA.fz 4))
 have HC:Hid (∀ w1,Fr (fun q=>q = ab) w w1 → w1.cell? ⟨cb,0,none⟩ = some (.pointer (some ⟨ab,0,none⟩))):=fun w1 hf=>(hf.cell (p:=⟨cb,0,none⟩) hcl n1).trans h0
 have HBY:Hid (∀ w1,Fr (fun q=>q = ab) w w1 → BytesIn w1 tb 0 textL):=fun w1 hf=>hb.keep (by rw [textL_len];omega) hf n2
 have HH:=Lib.hid (And.intro hA (And.intro ht hmu))
 clear hb hA ht hmu
 go_enter Tryz.func86,Tryz.ntmps86
 go_wp2_with (go_at_call 87;refine HAD.out.mono ?_;rintro e w1 ⟨⟨rr,rfl⟩,s4,hw1⟩)
 rw [← hw1]
 have F1:Fr (fun q=>q = ab) w w1:=by rw [hw1];exact (Fr.refl (· = ab) w).setCell (p:=⟨ab,4,none⟩) rfl _
 have hne:∀ j,j ≠ 4 → w1.cell? ⟨ab,j,none⟩ = w.cell? ⟨ab,j,none⟩:=fun j hj=>by rw [hw1,World.cell?_setCell_other _ _ _ _ (addr_ne (Ne.symm hj))]
 have hA1:AdB w1 ab:=⟨fun j hj=>by
  by_cases e:j = 4
  ·subst e;exact ⟨_,by rw [hw1];exact World.cell?_setCell_same _ _ _ h4⟩
  ·obtain ⟨u,hu⟩:=HH.out.1.ex j hj;exact ⟨u,(hne j e).trans hu⟩,fun o=>by rw [hw1,World.frozen?_setCell];exact HH.out.1.fz o⟩
 have ht1:=(hne 0 (by omega)).trans HH.out.2.1
 have hm1:=Lib.hid ((hne 2 (by omega)).trans HH.out.2.2)
 have hc1:=HC.out w1 F1
 have HB1:=Lib.hid (HBY.out w1 F1)
 have hsz1:=F1.size
 have HF1:=Lib.hid F1
 have HA1:=Lib.hid hA1
 clear hw1 F1 hne hA1 HAD h4 h0 HH
 have HPS:Hid (∀ q,Calls Tryz.prog 88 #[.slice (some ⟨tb,0,none⟩) textL.length tc] (w1.drewN q) _):=fun q=>pset_stated (w1.drewN q) tb tc HB1.out (Nat.lt_of_lt_of_le htl hsz1) hcap
 have HEX:Hid (∀ w4,w4.os = w1.os → w4.tape = w1.tape → w4.output = w1.output → w1.heap.size ≤ w4.heap.size → (∀ k,k < w1.heap.size → w4.heap[k]? = w1.heap[k]?) → Below w1.heap.size w1 w4):=fun w4 a1 a2 a3 a4 a5=>⟨a1,a2,a3,a4,a5⟩
 have hal1:ab < w1.heap.size:=Nat.lt_of_lt_of_le hal hsz1
 have hcl1:cb < w1.heap.size:=Nat.lt_of_lt_of_le hcl hsz1
 go_cut [] (fun wx=>Hid (∃ b2 c2 w4,Below w1.heap.size w1 w4 ∧ TksIn w4.heap.size w4 (some ⟨b2,0,none⟩) 3 tkS ∧ 3 ≤ c2 ∧ w1.heap.size ≤ b2 ∧ Fr (fun q=>q = ab) w4 wx ∧ AdB wx ab ∧ wx.cell? ⟨ab,5,none⟩ = some (.int .i64 1) ∧ wx.cell? ⟨ab,6,none⟩ = some (.slice (some ⟨b2,0,none⟩) 3 c2) ∧ ∀ j,j ≠ 5 → j ≠ 6 → j ≠ 7 → j ≠ 8 → j ≠ 9 → wx.cell? ⟨ab,j,none⟩ = w4.cell? ⟨ab,j,none⟩))
 case first =>
  go_region_law (go_simp;go_at_call 88;refine Calls.mono (by first | exact HPS.out _ | exact HPS.out 1 | exact HPS.out 0) ?_;rintro e w4 ⟨b2,c2,rfl,k1,k2,k3,hb4⟩;have HB4:=Lib.hid (HEX.out w4 hb4.os hb4.tape hb4.output hb4.size hb4.block);have hc4:=cell_bel HB4.out hc1;have HA4:=Lib.hid (HA1.out.fr (S:=fun _=>False) (Fr.of_below HB4.out) (by simp));obtain ⟨x5,e5⟩:=HA4.out.ex 5 (by omega);obtain ⟨x6,e6⟩:=HA4.out.ex 6 (by omega);obtain ⟨x7,e7⟩:=HA4.out.ex 7 (by omega);obtain ⟨x8,e8⟩:=HA4.out.ex 8 (by omega);obtain ⟨x9,e9⟩:=HA4.out.ex 9 (by omega);have z5:=HA4.out.fz 5;have z6:=HA4.out.fz 6;have z7:=HA4.out.fz 7;have z8:=HA4.out.fz 8;have z9:=HA4.out.fz 9;have HK:=Lib.hid (And.intro k1 (And.intro k2 k3));clear k1 k2 k3 hb4)
  all_goals
   have G:=Lib.hid (ad_five HA4.out (.int .i64 1) (.slice (some ⟨b2,0,none⟩) 3 c2) (.int .i64 0) (.int .i64 0) (.int .i64 0))
   clear e5 e6 e7 e8 e9 z5 z6 z7 z8 z9
   (try go_wp2_with fail)
   go_meet
   case rel=>exact ⟨b2,c2,w4,HB4.out,HK.out.2.1,HK.out.2.2,HK.out.1,G.out.1,G.out.2.1,G.out.2.2.1,G.out.2.2.2.1,G.out.2.2.2.2⟩
 obtain ⟨b2,c2,w4,k1,k2,k3,k4,k5,k6,k7,k8,k9⟩:=hcut.out
 have K:=Lib.hid (And.intro k1 (And.intro k5 k9))
 have hwc:w1.heap.size ≤ wc.heap.size:=Nat.le_trans k1.size k5.size
 have hcc:wc.cell? ⟨cb,0,none⟩ = some (.pointer (some ⟨ab,0,none⟩)):=(k5.cell (p:=⟨cb,0,none⟩) (Nat.lt_of_lt_of_le hcl1 k1.size) n1).trans (cell_bel k1 hc1)
 have hx:TksIn w4.heap.size wc (some ⟨b2,0,none⟩) 3 tkS:=k2.fr (Nat.le_refl _) k5 (fun b _ ⟨oo,ho⟩ e=>by cases ho;omega)
 have HLS:Hid (∀ q,Calls Tryz.prog 9 #[.agg #[.int .i64 1,.slice (some ⟨b2,0,none⟩) 3 c2]] (wc.drewN q) _):=fun q=>least_stated (wc.drewN q) w4.heap.size b2 c2 hx k5.size k3
 have HEX2:Hid (∀ w6,w6.os = wc.os → w6.tape = wc.tape → w6.output = wc.output → wc.heap.size ≤ w6.heap.size → (∀ k,k < wc.heap.size → w6.heap[k]? = wc.heap[k]?) → Below wc.heap.size wc w6):=fun w6 a1 a2 a3 a4 a5=>⟨a1,a2,a3,a4,a5⟩
 have HX:=Lib.hid hx
 have HA6:=Lib.hid k6
 have h34:=Lib.hid (And.intro k3 k4)
 have FIN:Hid (∀ w6 wx,Below wc.heap.size wc w6 → Fr (fun q=>q = ab) w6 wx → wx.cell? ⟨ab,10,none⟩ = some (.int .i64 6) → wx.cell? ⟨ab,14,none⟩ = some (.int .i64 0) → (∀ o,wx.frozen? ⟨ab,o,none⟩ = false) → (∀ j,j < 10 → wx.cell? ⟨ab,j,none⟩ = w6.cell? ⟨ab,j,none⟩) →
   (∃ b2 c2,AdL wx ab b2 c2 ∧ TksIn wx.heap.size wx (some ⟨b2,0,none⟩) 3 tkS ∧ 3 ≤ c2 ∧ w.heap.size ≤ b2) ∧ Fr (fun q=>q = ab) w wx ∧ (∀ o,wx.frozen? ⟨ab,o,none⟩ = false) ∧ KeepsOnce ab 1 w wx):=fun w6 wx g1 g2 g3 g4 g5 g6=>by
  have F6:Fr (fun q=>q = ab) w w6:=((HF1.out.trans (Fr.of_below (S:=fun q=>q = ab) k1) (U:=fun q=>q = ab) (fun _ _ e=>e) (fun _ _ e=>e)).trans k5 (U:=fun q=>q = ab) (fun _ _ e=>e) (fun _ _ e=>e)).trans (Fr.of_below (S:=fun q=>q = ab) g1) (fun _ _ e=>e) (fun _ _ e=>e)
  have hall:∀ j,j < 10 → wx.cell? ⟨ab,j,none⟩ = wc.cell? ⟨ab,j,none⟩:=fun j hj=>(g6 j hj).trans (g1.cell (p:=⟨ab,j,none⟩) (Nat.lt_of_lt_of_le hal1 hwc))
  have hold:∀ j,j < 4 → wx.cell? ⟨ab,j,none⟩ = w1.cell? ⟨ab,j,none⟩:=fun j hj=>(hall j (by omega)).trans ((k9 j (by omega) (by omega) (by omega) (by omega) (by omega)).trans (k1.cell (p:=⟨ab,j,none⟩) hal1))
  have hx2:TksIn wx.heap.size wx (some ⟨b2,0,none⟩) 3 tkS:=fun h0=>by
   obtain ⟨bb,oo,e1,e2,e3⟩:=(hx.fr k5.size (Fr.of_below (S:=fun _=>False) g1) (fun _ _ _ e=>e)).fr (Nat.le_trans k5.size g1.size) g2 (fun b _ ⟨oo,ho⟩ e=>by cases ho;omega) h0
   exact ⟨bb,oo,e1,Nat.lt_of_lt_of_le e2 (Nat.le_trans (Nat.le_trans k5.size g1.size) g2.size),e3⟩
  refine ⟨⟨b2,c2,⟨(hall 5 (by omega)).trans k7,(hall 6 (by omega)).trans k8,g3,g4⟩,hx2,k3,by omega⟩,F6.trans g2 (fun _ _ e=>e) (fun _ _ e=>e),g5,?_,?_,g5 1,g5 2⟩
  ·obtain ⟨u,hu⟩:=HA1.out.ex 1 (by omega);exact ⟨u,(hold 1 (by omega)).trans hu⟩
  ·exact (hold 2 (by omega)).trans hm1.out
 clear hcut k1 k2 k3 k4 k5 k6 k9 HPS HEX hx
 go_wp2_with fail
 refine wp_region_held_drew (S:=(fun w'=>w'.cell? ⟨cb,0,none⟩ = some (.pointer (some ⟨ab,0,none⟩)) ∧ w'.cell? ⟨ab,5,none⟩ = some (.int .i64 1) ∧ w'.cell? ⟨ab,6,none⟩ = some (.slice (some ⟨b2,0,none⟩) 3 c2) ∧ (∃ w6,Below wc.heap.size wc w6 ∧ Fr (fun q=>q = ab) w6 w'))) (by kernel_rfl) ?hS0lf (fun hHeld=>?_)
 case hS0lf=>(try dsimp only);exact ⟨hcc,k7,k8,wc,Below.refl _ _,(Fr.refl _ wc).drew⟩
 refine wtk (i:=0) ?_
 try simp only [Act.put,List.setIfInBounds_toArray,List.set]
 refine wtk (i:=1) ?_
 try simp only [Act.put,List.setIfInBounds_toArray,List.set]
 refine wtk (i:=2) ?_
 try simp only [Act.put,List.setIfInBounds_toArray,List.set]
 refine wtk (i:=3) ?_
 try simp only [Act.put,List.setIfInBounds_toArray,List.set]
 refine wtk (i:=4) ?_
 try simp only [Act.put,List.setIfInBounds_toArray,List.set]
 refine wtk (i:=5) ?_
 try simp only [Act.put,List.setIfInBounds_toArray,List.set]
 refine wtk (i:=6) ?_
 try simp only [Act.put,List.setIfInBounds_toArray,List.set]
 refine wpAnyH_ready (rs:=[7]) (by kernel_rfl) (by simp) ?_
 refine arc (fun K hK=>?_) AllReadyH.nil
 go_simp
 go_at_call 9
 refine Calls.mono (by first | exact HLS.out _ | exact HLS.out 1 | exact HLS.out 0) ?_
 rintro e w6 ⟨late,rb,rfl,hb6⟩
 have HB6:=Lib.hid (HEX2.out w6 hb6.os hb6.tape hb6.output hb6.size hb6.block)
 have HA7:=Lib.hid (HA6.out.fr (S:=fun _=>False) (Fr.of_below HB6.out) (by simp))
 obtain ⟨x10,e10⟩:=HA7.out.ex 10 (by omega)
 obtain ⟨x11,e11⟩:=HA7.out.ex 11 (by omega)
 obtain ⟨x12,e12⟩:=HA7.out.ex 12 (by omega)
 obtain ⟨x13,e13⟩:=HA7.out.ex 13 (by omega)
 obtain ⟨x14,e14⟩:=HA7.out.ex 14 (by omega)
 have z10:=HA7.out.fz 10
 have z11:=HA7.out.fz 11
 have z12:=HA7.out.fz 12
 have z13:=HA7.out.fz 13
 have z14:=HA7.out.fz 14
 clear hb6
 have KEEP:Hid (∀ w',Fr (fun q=>q = ab) w6 w' → (∀ j,j < 10 → w'.cell? ⟨ab,j,none⟩ = w6.cell? ⟨ab,j,none⟩) → w'.cell? ⟨cb,0,none⟩ = some (.pointer (some ⟨ab,0,none⟩)) ∧ w'.cell? ⟨ab,5,none⟩ = some (.int .i64 1) ∧ w'.cell? ⟨ab,6,none⟩ = some (.slice (some ⟨b2,0,none⟩) 3 c2) ∧ (∃ w6,Below wc.heap.size wc w6 ∧ Fr (fun q=>q = ab) w6 w')):=fun w' f h =>
  ⟨(f.cell (p:=⟨cb,0,none⟩) (Nat.lt_of_lt_of_le hcl1 (Nat.le_trans hwc HB6.out.size)) n1).trans (cell_bel HB6.out hcc),(h 5 (by omega)).trans (cell_bel HB6.out k7),(h 6 (by omega)).trans (cell_bel HB6.out k8),w6,HB6.out,f⟩
 refine hK.out _ _ ?hSlf8 (fun hHeld2=>?hrlf8)
 case hSlf8=>(try dsimp only);exact ⟨cell_bel HB6.out hcc,cell_bel HB6.out k7,cell_bel HB6.out k8,w6,HB6.out,Fr.refl _ _⟩
 clear hK K hHeld
 have hHeld:=hHeld2
 clear hHeld2
 try simp only [Act.put,List.setIfInBounds_toArray,List.set]
 refine wtk (i:=8) ?_
 try simp only [Act.put,List.setIfInBounds_toArray,List.set]
 refine wtk (i:=9) ?_
 try simp only [Act.put,List.setIfInBounds_toArray,List.set]
 refine wtk (i:=10) ?_
 try simp only [Act.put,List.setIfInBounds_toArray,List.set]
 refine wtk (i:=11) ?_
 try simp only [Act.put,List.setIfInBounds_toArray,List.set]
 refine wtk (i:=12) ?_
 try simp only [Act.put,List.setIfInBounds_toArray,List.set]
 refine wtk (i:=13) ?_
 try simp only [Act.put,List.setIfInBounds_toArray,List.set]
 refine wpAnyH_ready (rs:=[14]) (by kernel_rfl) (by simp) ?_
 refine arc (fun K hK=>?_) AllReadyH.nil
 go_simp
 refine hK.out _ _ ?hSlf15 (fun hHeld2=>?hrlf15)
 case hSlf15=>(try dsimp only);exact KEEP.out _ (fr_set (Fr.refl _ _) 10 _) (fun j hj=>get_ne (by omega))
 clear hK K hHeld
 have hHeld:=hHeld2
 clear hHeld2
 try simp only [Act.put,List.setIfInBounds_toArray,List.set]
 refine wtk (i:=15) ?_
 try simp only [Act.put,List.setIfInBounds_toArray,List.set]
 refine wtk (i:=16) ?_
 try simp only [Act.put,List.setIfInBounds_toArray,List.set]
 refine wpAnyH_ready (rs:=[17]) (by kernel_rfl) (by simp) ?_
 refine arc (fun K hK=>?_) AllReadyH.nil
 go_simp
 refine hK.out _ _ ?hSlf18 (fun hHeld2=>?hrlf18)
 case hSlf18=>(try dsimp only);exact KEEP.out _ (fr_set (fr_set (fr_set (fr_set (Fr.refl _ _) 10 _) 11 _) 12 _) 13 _) (fun j hj=>by rw [get_ne (by omega),get_ne (by omega),get_ne (by omega),get_ne (by omega)])
 clear hK K hHeld
 have hHeld:=hHeld2
 clear hHeld2
 try simp only [Act.put,List.setIfInBounds_toArray,List.set]
 refine wtk (i:=18) ?_
 try simp only [Act.put,List.setIfInBounds_toArray,List.set]
 refine wtk (i:=19) ?_
 try simp only [Act.put,List.setIfInBounds_toArray,List.set]
 refine wpAnyH_ready (rs:=[20]) (by kernel_rfl) (by simp) ?_
 refine arc (fun K hK=>?_) AllReadyH.nil
 go_simp
 refine hK.out _ _ ?hSlf21 (fun hHeld2=>?hrlf21)
 case hSlf21=>(try dsimp only);exact KEEP.out _ (fr_set (fr_set (fr_set (fr_set (fr_set (Fr.refl _ _) 10 _) 11 _) 12 _) 13 _) 14 _) (fun j hj=>by rw [get_ne (by omega),get_ne (by omega),get_ne (by omega),get_ne (by omega),get_ne (by omega)])
 clear hK K hHeld
 have hHeld:=hHeld2
 clear hHeld2
 try simp only [Act.put,List.setIfInBounds_toArray,List.set]
 refine wpAnyH_done (by kernel_rfl) ?_ _
 have G:=Lib.hid (ad_five2 HA7.out (.int .i64 6) (.bool true) (.int .i64 late) (.slice (some ⟨rb,0,none⟩) 3 3) (.int .i64 0))
 have GF:=Lib.hid (FIN.out w6 _ HB6.out G.out.1 G.out.2.1 G.out.2.2.1 G.out.2.2.2.1 G.out.2.2.2.2)
 clear e10 e11 e12 e13 e14 z10 z11 z12 z13 z14 G hHeld
 (try go_wp2_with fail)
 go_end0
 exact ⟨rfl,GF.out⟩
end
end Go.Proofs.YtnoahekcemfmcaaGreatDoor
