/- THE WHEEL's CONTRACTS, told of one list in order. -/
import Derived.Test.YthmbbbdnfgefbaaPlain2
namespace Go.Proofs.Ythmbbbdnfgefbaa
open Go.RowKit
set_option linter.unusedVariables false

/-- The wheel at p holds the entries m, in order; F: its blocks. -/
def WH (B : Nat) (w : World) (p : Nat) (F : Nat → Prop) (room : Nat) (now : Int) (m : List (Int × Int)) : Prop :=
  ∃ S, WheelAt B w p F S ∧ S.Rep m ∧ S.now = now ∧ S.room = room ∧ S.n ≤ S.room ∧ room ≤ 1024

theorem WH.keep {B : Nat} {w w' : World} {p : Nat} {F T : Nat → Prop} {room : Nat} {now : Int} {m : List (Int × Int)} (h : WH B w p F room now m) (hf : Fr T w w') (hT : ∀ k, F k → ¬ T k) : WH B w' p F room now m := by
  obtain ⟨S, h1, r⟩ := h
  exact ⟨S, h1.keep hf hT, r⟩
theorem WH.below {B : Nat} {w w' : World} {p : Nat} {F : Nat → Prop} {room : Nat} {now : Int} {m : List (Int × Int)} (h : WH B w p F room now m) (hb : Below w.heap.size w w') : WH B w' p F room now m :=
  h.keep (Fr.of_below (S := fun _ => False) hb) (by simp)
theorem WH.flt {B : Nat} {w : World} {p : Nat} {F : Nat → Prop} {room : Nat} {now : Int} {m : List (Int × Int)} (h : WH B w p F room now m) (k : Nat) (hk : F k) : k < w.heap.size ∧ B ≤ k := by
  obtain ⟨S, h1, r⟩ := h; exact h1.flt k hk
theorem WH.now0 {B : Nat} {w : World} {p : Nat} {F : Nat → Prop} {room : Nat} {now : Int} {m : List (Int × Int)} (h : WH B w p F room now m) : 0 ≤ now := by
  obtain ⟨S, h1, r, e, _⟩ := h; rw [← e]; exact r.ok.now
theorem WH.len {B : Nat} {w : World} {p : Nat} {F : Nat → Prop} {room : Nat} {now : Int} {m : List (Int × Int)} (h : WH B w p F room now m) : m.length ≤ room ∧ room ≤ 1024 := by
  obtain ⟨S, h1, r, e, e2, e3, e4⟩ := h; rw [← r.n, ← e2]; exact ⟨e3, by omega⟩
theorem WH.srt {B : Nat} {w : World} {p : Nat} {F : Nat → Prop} {room : Nat} {now : Int} {m : List (Int × Int)} (h : WH B w p F room now m) : Srt m := by
  obtain ⟨S, h1, r, _⟩ := h; exact r.srt
theorem WH.ids {B : Nat} {w : World} {p : Nat} {F : Nat → Prop} {room : Nat} {now : Int} {m : List (Int × Int)} (h : WH B w p F room now m) : (m.map (·.2)).Nodup := by
  obtain ⟨S, h1, r, _⟩ := h; exact r.ids
theorem WH.mem {B : Nat} {w : World} {p : Nat} {F : Nat → Prop} {room : Nat} {now : Int} {m : List (Int × Int)} (h : WH B w p F room now m) {d : Int × Int} (hd : d ∈ m) : now ≤ d.1 ∧ d.1 ≤ 1099511627776 := by
  obtain ⟨S, h1, r, e, _⟩ := h; rw [← e]; exact r.mem hd
theorem WH.drewN {B : Nat} {w : World} {p : Nat} {F : Nat → Prop} {room : Nat} {now : Int} {m : List (Int × Int)} (h : WH B w p F room now m) (n : Nat) : WH B (w.drewN n) p F room now m :=
  h.keep (T := fun _ => False) ((Fr.refl _ _).drewN n) (by simp)

theorem new_m (B room : Nat) (w : World) (h1 : 1 ≤ room) (h2 : room ≤ 1024) (hB : B ≤ w.heap.size) :
    Calls Try.prog 13 #[.int .i64 room] w fun e w' => (∃ p F, e = .returned (.tuple #[.pointer (some ⟨p, 0, none⟩), .int .i64 0]) ∧ WH B w' p F room 0 [] ∧ (∀ k, F k → w.heap.size ≤ k)) ∧ Below w.heap.size w w' :=
  (new_good B room w h1 h2 hB).mono fun _ _ ⟨⟨p, F, he, hW, hF⟩, hb⟩ => ⟨⟨p, F, he, ⟨_, hW, rep_empty room, rfl, rfl, Nat.zero_le _, h2⟩, hF⟩, hb⟩

theorem add_m {B p room : Nat} {F : Nat → Prop} {now : Int} {m : List (Int × Int)} {w : World} (h : WH B w p F room now m) (hB : B ≤ w.heap.size) (d : Int × Int) :
    Calls Try.prog 15 #[.pointer (some ⟨p, 0, none⟩), .agg #[.int .i64 d.1, .int .i64 d.2]] w fun e w' => e = .returned (.int .i64 (addM now room m d).1) ∧
      ∃ F', WH B w' p F' room now (addM now room m d).2 ∧ (∀ k, F' k → F k ∨ w.heap.size ≤ k) ∧ Fr F w w' := by
  obtain ⟨S, hW, hR, rfl, rfl, hn, h1024⟩ := h
  obtain ⟨r1, r2, r3, r4, r5⟩ := hR.add d hn h1024
  refine (add_any B p F S d w hW hB (fun i hi => by have := hR.ok.len i hi; have := hR.ok.le; omega) hR.ok.le hR.ok.now).mono ?_
  rintro e w' ⟨rfl, F', hW', hF, hf⟩
  exact ⟨by rw [r1], F', ⟨_, hW', r2, r3, r4, by rw [r4]; exact r5, h1024⟩, hF, hf⟩

theorem cancel_m {B p room : Nat} {F : Nat → Prop} {now : Int} {m : List (Int × Int)} {w : World} (h : WH B w p F room now m) (hB : B ≤ w.heap.size) (id : Int) :
    Calls Try.prog 16 #[.pointer (some ⟨p, 0, none⟩), .int .i64 id] w fun e w' => e = .returned (.bool (m.any fun d => d.2 == id)) ∧
      ∃ F', WH B w' p F' room now (m.filter fun d => !(d.2 == id)) ∧ (∀ k, F' k → F k ∨ w.heap.size ≤ k) ∧ Fr F w w' := by
  obtain ⟨S, hW, hR, rfl, rfl, hn, h1024⟩ := h
  obtain ⟨r1, r2, r3, r4, r5⟩ := hR.cancel fun d => d.2 == id
  refine (cancel_any B p F S id w hW hB hR.ok).mono ?_
  rintro e w' ⟨rfl, F', hW', hF, hf⟩
  exact ⟨by rw [r2], F', ⟨_, hW', r1, r3, r4, by rw [r4]; omega, h1024⟩, hF, hf⟩

theorem advance_bad_m {B p room : Nat} {F : Nat → Prop} {now : Int} {m : List (Int × Int)} {w : World} (h : WH B w p F room now m) (t : Int) (hb : t < now ∨ 1099511627776 < t) :
    Calls Try.prog 17 #[.pointer (some ⟨p, 0, none⟩), .int .i64 t] w fun e w' => e = .returned (.tuple #[.slice none 0 0, .int .i64 1]) ∧ Below w.heap.size w w' := by
  obtain ⟨S, hW, hR, rfl, rfl, hn, h1024⟩ := h
  exact advance_bad B p F S t w hW hb

theorem advance_m {B p room : Nat} {F : Nat → Prop} {now : Int} {m : List (Int × Int)} {w : World} (h : WH B w p F room now m) (hB : B ≤ w.heap.size) (t : Int) (h1 : now ≤ t) (h2 : t ≤ 1099511627776) :
    Calls Try.prog 17 #[.pointer (some ⟨p, 0, none⟩), .int .i64 t] w fun e w' => ∃ (v : Value) (F' : Nat → Prop), e = .returned (.tuple #[v, .int .i64 0]) ∧
      w'.ownsRow w.heap.size 30 2 v (m.filter fun d => decide (d.1 ≤ t)).length ((m.filter fun d => decide (d.1 ≤ t)).flatMap dueC) ∧ WH B w' p F' room t (m.filter fun d => !decide (d.1 ≤ t)) ∧
      (∀ k, F' k → F k ∨ w.heap.size ≤ k) ∧ (∀ k, v.ownBlock = some k → ¬ F' k) ∧ Fr F w w' ∧ ((m.filter fun d => decide (d.1 ≤ t)) = [] → v = .slice none 0 0) := by
  obtain ⟨S, hW, hR, rfl, rfl, hn, h1024⟩ := h
  refine (advance_good B p F S t w hW hB hR.ok h1 h2).mono ?_
  rintro e w' ⟨v, F', l, rfl, hp, hs, hown, hW', hF, hv, hf, hz⟩
  obtain ⟨r1, r2, r3⟩ := hR.advance t h1 hp hs
  subst r1
  exact ⟨v, F', rfl, hown, ⟨_, hW', r2, rfl, (S.adv_now t _).2, by show (S.adv t _).1.n ≤ (S.adv t _).1.room; rw [(S.adv_now t _).2]; omega, h1024⟩, hF, hv, hf, hz⟩

def nextM (m : List (Int × Int)) : Int × Bool := match m with | [] => (0, false) | d :: _ => (d.1, true)

theorem next_m {B p room : Nat} {F : Nat → Prop} {now : Int} {m : List (Int × Int)} {w : World} (h : WH B w p F room now m) :
    Calls Try.prog 19 #[.pointer (some ⟨p, 0, none⟩)] w fun e w' => e = .returned (.tuple #[.int .i64 (nextM m).1, .bool (nextM m).2]) ∧ Below w.heap.size w w' := by
  obtain ⟨S, hW, hR, rfl, rfl, hn, h1024⟩ := h
  refine (next_any B p F S w hW hR.ok).mono ?_
  rintro e w' ⟨rfl, hb⟩
  refine ⟨?_, hb⟩
  cases m with
  | nil => rw [hR.next_nil]; rfl
  | cons d m =>
    rw [hR.next_cons]
    have := (hR.mem (d := d) List.mem_cons_self).2
    rw [if_pos this, decide_eq_true this]; rfl

theorem now_m {B p room : Nat} {F : Nat → Prop} {now : Int} {m : List (Int × Int)} {w : World} (h : WH B w p F room now m) :
    Calls Try.prog 20 #[.pointer (some ⟨p, 0, none⟩)] w fun e w' => e = .returned (.int .i64 now) ∧ w = w' := by
  obtain ⟨S, hW, hR, rfl, rfl, hn, h1024⟩ := h
  exact now_any B p F S w hW

theorem len_m {B p room : Nat} {F : Nat → Prop} {now : Int} {m : List (Int × Int)} {w : World} (h : WH B w p F room now m) :
    Calls Try.prog 21 #[.pointer (some ⟨p, 0, none⟩)] w fun e w' => e = .returned (.int .i64 m.length) ∧ w = w' := by
  obtain ⟨S, hW, hR, rfl, rfl, hn, h1024⟩ := h
  have := len_any B p F S w hW
  rw [hR.n] at this
  exact this
end Go.Proofs.Ythmbbbdnfgefbaa
