/- TWO WHEELS, apart in memory. -/
import Derived.Test.YthmbbbdnfgefbaaKeepsW
namespace Go.Proofs.Ythmbbbdnfgefbaa
open Go.RowKit
set_option linter.unusedVariables false

/-- Two wheels, made since w0, apart in memory; and a set X of blocks that are neither's. -/
structure W2 (w0 w : World) (pa pb room : Nat) (Fa Fb : Nat → Prop) (na nb : Int) (ma mb : List (Int × Int)) : Prop where
  a : WH w0.heap.size w pa Fa room na ma
  b : WH w0.heap.size w pb Fb room nb mb
  ap : ∀ k, Fa k → ¬ Fb k
  bel : Below w0.heap.size w0 w

theorem W2.swap {w0 w : World} {pa pb room : Nat} {Fa Fb : Nat → Prop} {na nb : Int} {ma mb : List (Int × Int)} (h : W2 w0 w pa pb room Fa Fb na nb ma mb) : W2 w0 w pb pa room Fb Fa nb na mb ma :=
  ⟨h.b, h.a, fun k hb ha => h.ap k ha hb, h.bel⟩

theorem W2.keep {w0 w w' : World} {pa pb room : Nat} {Fa Fb T : Nat → Prop} {na nb : Int} {ma mb : List (Int × Int)} (h : W2 w0 w pa pb room Fa Fb na nb ma mb) (hf : Fr T w w') (ha : ∀ k, Fa k → ¬ T k) (hb : ∀ k, Fb k → ¬ T k) (hT : ∀ k, k < w.heap.size → T k → w0.heap.size ≤ k) :
    W2 w0 w' pa pb room Fa Fb na nb ma mb := ⟨h.a.keep hf ha, h.b.keep hf hb, h.ap, h.bel.trans (hf.below hT h.bel.size)⟩

theorem W2.drew {w0 w : World} {pa pb room : Nat} {Fa Fb : Nat → Prop} {na nb : Int} {ma mb : List (Int × Int)} (h : W2 w0 w pa pb room Fa Fb na nb ma mb) : W2 w0 w.drew pa pb room Fa Fb na nb ma mb :=
  h.keep (T := fun _ => False) (Fr.refl _ _).drew (by simp) (by simp) (by simp)

/-- The first wheel's blocks have grown; a frame tells what else may have turned. -/
theorem W2.turn {w0 w w' : World} {pa pb room : Nat} {Fa Fb Fa' : Nat → Prop} {na na' nb : Int} {ma ma' mb : List (Int × Int)} (h : W2 w0 w pa pb room Fa Fb na nb ma mb) (h' : WH w0.heap.size w' pa Fa' room na' ma')
    (hF : ∀ k, Fa' k → Fa k ∨ w.heap.size ≤ k) (hf : Fr Fa w w') : W2 w0 w' pa pb room Fa' Fb na' nb ma' mb :=
  ⟨h', h.b.keep hf (fun k hb ha => h.ap k ha hb), fun k ha hb => (hF k ha).elim (fun ha => h.ap k ha hb) (fun hk => by have := (h.b.flt k hb).1; omega), fr_below h.bel hf fun k hk => (h.a.flt k hk).2⟩

theorem W2.addA {w0 w : World} {pa pb room : Nat} {Fa Fb : Nat → Prop} {na nb : Int} {ma mb : List (Int × Int)} (h : W2 w0 w pa pb room Fa Fb na nb ma mb) (a i : Int) :
    Calls Try.prog 15 #[.pointer (some ⟨pa, 0, none⟩), .agg #[.int .i64 a, .int .i64 i]] w fun e w' => e = .returned (.int .i64 (addM na room ma (a, i)).1) ∧ ∃ Fa', W2 w0 w' pa pb room Fa' Fb na nb (addM na room ma (a, i)).2 mb :=
  (add_m h.a h.bel.size (a, i)).mono fun _ _ ⟨he, F', hW, hF, hf⟩ => ⟨he, F', h.turn hW hF hf⟩

theorem W2.addB {w0 w : World} {pa pb room : Nat} {Fa Fb : Nat → Prop} {na nb : Int} {ma mb : List (Int × Int)} (h : W2 w0 w pa pb room Fa Fb na nb ma mb) (a i : Int) :
    Calls Try.prog 15 #[.pointer (some ⟨pb, 0, none⟩), .agg #[.int .i64 a, .int .i64 i]] w fun e w' => e = .returned (.int .i64 (addM nb room mb (a, i)).1) ∧ ∃ Fb', W2 w0 w' pa pb room Fa Fb' na nb ma (addM nb room mb (a, i)).2 :=
  (h.swap.addA a i).mono fun _ _ ⟨he, F', hW⟩ => ⟨he, F', hW.swap⟩

theorem W2.cancelA {w0 w : World} {pa pb room : Nat} {Fa Fb : Nat → Prop} {na nb : Int} {ma mb : List (Int × Int)} (h : W2 w0 w pa pb room Fa Fb na nb ma mb) (id : Int) :
    Calls Try.prog 16 #[.pointer (some ⟨pa, 0, none⟩), .int .i64 id] w fun e w' => e = .returned (.bool (ma.any fun d => d.2 == id)) ∧ ∃ Fa', W2 w0 w' pa pb room Fa' Fb na nb (ma.filter fun d => !(d.2 == id)) mb :=
  (cancel_m h.a h.bel.size id).mono fun _ _ ⟨he, F', hW, hF, hf⟩ => ⟨he, F', h.turn hW hF hf⟩

/-- A row of entries that is no wheel's. -/
structure Out (w0 w : World) (Fa Fb : Nat → Prop) (v : Value) (l : List (Int × Int)) : Prop where
  own : w.ownsRow w0.heap.size 30 2 v l.length (l.flatMap dueC)
  fa : ∀ g, v.ownBlock = some g → ¬ Fa g ∧ ¬ Fb g
  z : l = [] → v = .slice none 0 0

theorem Out.keep {w0 w w' : World} {Fa Fb Fa' T : Nat → Prop} {v : Value} {l : List (Int × Int)} (h : Out w0 w Fa Fb v l) (hf : Fr T w w') (hT : ∀ g, v.ownBlock = some g → ¬ T g) (hF : ∀ k, Fa' k → Fa k ∨ w.heap.size ≤ k) : Out w0 w' Fa' Fb v l :=
  ⟨ownsRow_keep h.own fun k hk => hf.block k (ownsRow_lt h.own k hk) (hT k hk), fun g hg => ⟨fun hc => (hF g hc).elim (h.fa g hg).1 (fun hk => by have := ownsRow_lt h.own g hg; omega), (h.fa g hg).2⟩, h.z⟩

theorem W2.advA {w0 w : World} {pa pb room : Nat} {Fa Fb : Nat → Prop} {na nb : Int} {ma mb : List (Int × Int)} (h : W2 w0 w pa pb room Fa Fb na nb ma mb) (t : Int) (h1 : na ≤ t) (h2 : t ≤ 1099511627776) :
    Calls Try.prog 17 #[.pointer (some ⟨pa, 0, none⟩), .int .i64 t] w fun e w' => ∃ (a : Option Addr) (c : Nat) (Fa' : Nat → Prop), e = .returned (.tuple #[.slice a (ma.filter fun d => decide (d.1 ≤ t)).length c, .int .i64 0]) ∧
      Out w w' Fa' Fb (.slice a (ma.filter fun d => decide (d.1 ≤ t)).length c) (ma.filter fun d => decide (d.1 ≤ t)) ∧ W2 w0 w' pa pb room Fa' Fb t nb (ma.filter fun d => !decide (d.1 ≤ t)) mb ∧ (∀ k, Fa' k → Fa k ∨ w.heap.size ≤ k) ∧ Fr Fa w w' := by
  refine (advance_m h.a h.bel.size t h1 h2).mono ?_
  rintro e w' ⟨v, F', rfl, hown, hW, hF, hv, hf, hz⟩
  obtain ⟨a, c, rfl⟩ := ownsRow_form hown
  exact ⟨a, c, F', rfl, ⟨hown, fun g hg => ⟨hv g hg, fun hb => by have := (h.b.flt g hb).1; have := ownsRow_block hown g hg; omega⟩, hz⟩, h.turn hW hF hf, hF, hf⟩

/-- Of an ordered list: what is ahead of b, then what is ahead of c. -/
theorem filter_steps {m : List (Int × Int)} (h : Srt m) (b c : Int) (hbc : b ≤ c) :
    m.filter (fun d => decide (d.1 < b)) ++ (m.filter fun d => !decide (d.1 < b)).filter (fun d => decide (d.1 < c)) = m.filter fun d => decide (d.1 < c) := by
  induction m with
  | nil => rfl
  | cons x m ih =>
    obtain ⟨hx, hm⟩ := List.pairwise_cons.1 h
    by_cases h1 : x.1 < b
    · rw [List.filter_cons_of_pos (by simpa using h1), List.filter_cons_of_neg (by simpa using h1), List.filter_cons_of_pos (by simp; omega), List.cons_append, ih hm]
    · have hnil : m.filter (fun d => decide (d.1 < b)) = [] := List.filter_eq_nil_iff.2 fun d hd => by
        have := hx d hd; rw [ltD_iff] at this; simp; omega
      have hall : m.filter (fun d => !decide (d.1 < b)) = m := List.filter_eq_self.2 fun d hd => by
        have := hx d hd; rw [ltD_iff] at this; simp; omega
      rw [List.filter_cons_of_neg (by simpa using h1), List.filter_cons_of_pos (by simpa using h1), hnil, hall, List.nil_append]

theorem filter_two (m : List (Int × Int)) (b c : Int) (hbc : b ≤ c) : (m.filter fun d => !decide (d.1 < b)).filter (fun d => !decide (d.1 < c)) = m.filter fun d => !decide (d.1 < c) := by
  rw [List.filter_filter]
  apply List.filter_congr
  intro d _
  simp; omega

theorem le_lt (t : Int) : (fun d : Int × Int => decide (d.1 ≤ t)) = fun d => decide (d.1 < t + 1) := by
  funext d; rw [decide_eq_decide]; omega
end Go.Proofs.Ythmbbbdnfgefbaa
