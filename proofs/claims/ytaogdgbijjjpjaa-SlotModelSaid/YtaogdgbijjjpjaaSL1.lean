/- SLOTS: New, has, free; the predicates that the library calls. A slot is four numbers: id, group, from, to. -/
import Derived.Test.YtaogdgbijjjpjaaW6
import Derived.Test.YtaogdgbijjjpjaaW2
namespace Go.Proofs.Ytaogdgbijjjpjaa
open Go.RowKit
set_option linter.unusedVariables false

theorem cell_at {w w' : World} {b : Nat} {v : Value} (h : w.cell? ⟨b, 0, none⟩ = some v) (hb : Below w.heap.size w w') : w'.cell? ⟨b, 0, none⟩ = some v := (hb.cell (p := ⟨b, 0, none⟩) (block_lt h)).trans h

set_option maxHeartbeats 400000 in
theorem hasPred_any (x : Q) (id : Int) (Bc : Nat) (w : World) (hc : w.cell? ⟨Bc, 0, none⟩ = some (.int .i64 id)) :
    Calls Try.prog 64 (#[qv x] ++ #[.pointer (some ⟨Bc, 0, none⟩)]) w fun e w' => e = .returned (.bool (x.1 == id)) ∧ Below w.heap.size w w' := by
  obtain ⟨x0, x1, x2, x3⟩ := x
  have hc' : (w.alloc (.cells #[.int .i64 x0, .int .i64 x1, .int .i64 x2, .int .i64 x3] 59)).cell? ⟨Bc, 0, none⟩ = some (.int .i64 id) := by rw [World.cell?_alloc_lt w _ _ (block_lt hc)]; exact hc
  show Calls Try.prog 64 #[.agg #[.int .i64 x0, .int .i64 x1, .int .i64 x2, .int .i64 x3], .pointer (some ⟨Bc, 0, none⟩)] w _
  go_enter Try.func64, Try.ntmps64
  go_wp2_with fail
  go_ret
  exact ⟨rfl, (Below.refl _ _).alloc (Nat.le_refl _) _⟩
set_option maxHeartbeats 400000 in
theorem outPred_any (x : Q) (id : Int) (Bc : Nat) (w : World) (hc : w.cell? ⟨Bc, 0, none⟩ = some (.int .i64 id)) :
    Calls Try.prog 50 (#[qv x] ++ #[.pointer (some ⟨Bc, 0, none⟩)]) w fun e w' => e = .returned (.bool (x.1 == id)) ∧ Below w.heap.size w w' := by
  obtain ⟨x0, x1, x2, x3⟩ := x
  have hc' : (w.alloc (.cells #[.int .i64 x0, .int .i64 x1, .int .i64 x2, .int .i64 x3] 59)).cell? ⟨Bc, 0, none⟩ = some (.int .i64 id) := by rw [World.cell?_alloc_lt w _ _ (block_lt hc)]; exact hc
  show Calls Try.prog 50 #[.agg #[.int .i64 x0, .int .i64 x1, .int .i64 x2, .int .i64 x3], .pointer (some ⟨Bc, 0, none⟩)] w _
  go_enter Try.func50, Try.ntmps50
  go_wp2_with fail
  go_ret
  exact ⟨rfl, (Below.refl _ _).alloc (Nat.le_refl _) _⟩
/-- What At strikes out. -/
def atOut (t : Int) (x : Q) : Bool := decide (t < x.2.2.1) || decide (x.2.2.2 ≤ t)
set_option maxHeartbeats 400000 in
theorem atPred_any (x : Q) (t : Int) (Bc : Nat) (w : World) (hc : w.cell? ⟨Bc, 0, none⟩ = some (.int .i64 t)) :
    Calls Try.prog 55 (#[qv x] ++ #[.pointer (some ⟨Bc, 0, none⟩)]) w fun e w' => e = .returned (.bool (atOut t x)) ∧ Below w.heap.size w w' := by
  obtain ⟨x0, x1, x2, x3⟩ := x
  have hc' : (w.alloc (.cells #[.int .i64 x0, .int .i64 x1, .int .i64 x2, .int .i64 x3] 59)).cell? ⟨Bc, 0, none⟩ = some (.int .i64 t) := by rw [World.cell?_alloc_lt w _ _ (block_lt hc)]; exact hc
  show Calls Try.prog 55 #[.agg #[.int .i64 x0, .int .i64 x1, .int .i64 x2, .int .i64 x3], .pointer (some ⟨Bc, 0, none⟩)] w _
  have hb : Below w.heap.size w (w.alloc (.cells #[.int .i64 x0, .int .i64 x1, .int .i64 x2, .int .i64 x3] 59)) := (Below.refl _ _).alloc (Nat.le_refl _) _
  unfold atOut
  by_cases h1 : t < x2
  · go_enter Try.func55, Try.ntmps55
    go_wp2_with fail
    go_ret
    exact ⟨ret_bool (by simp [h1]), hb⟩
  · go_enter Try.func55, Try.ntmps55
    go_wp2_with fail
    go_ret
    exact ⟨ret_bool (by rw [decide_eq_false (by omega : ¬ t < x2)]; rfl), hb⟩
/-- What stands in a place's way. -/
def hits (g f t : Int) (x : Q) : Bool := (x.2.1 == g) && (decide (x.2.2.1 < t) && decide (f < x.2.2.2))
set_option maxHeartbeats 800000 in
theorem freePred_any (x : Q) (g f t : Int) (Bg Bt Bf : Nat) (w : World) (hg : w.cell? ⟨Bg, 0, none⟩ = some (.int .i64 g)) (ht : w.cell? ⟨Bt, 0, none⟩ = some (.int .i64 t)) (hf : w.cell? ⟨Bf, 0, none⟩ = some (.int .i64 f)) :
    Calls Try.prog 75 (#[qv x] ++ #[.pointer (some ⟨Bg, 0, none⟩), .pointer (some ⟨Bt, 0, none⟩), .pointer (some ⟨Bf, 0, none⟩)]) w fun e w' => e = .returned (.bool (hits g f t x)) ∧ Below w.heap.size w w' := by
  obtain ⟨x0, x1, x2, x3⟩ := x
  have hb : Below w.heap.size w (w.alloc (.cells #[.int .i64 x0, .int .i64 x1, .int .i64 x2, .int .i64 x3] 59)) := (Below.refl _ _).alloc (Nat.le_refl _) _
  have hg' := cell_at hg hb
  have ht' := cell_at ht hb
  have hf' := cell_at hf hb
  show Calls Try.prog 75 #[.agg #[.int .i64 x0, .int .i64 x1, .int .i64 x2, .int .i64 x3], .pointer (some ⟨Bg, 0, none⟩), .pointer (some ⟨Bt, 0, none⟩), .pointer (some ⟨Bf, 0, none⟩)] w _
  unfold hits
  have HB := Lib.hid hb
  clear hb hg ht hf
  by_cases h1 : x1 = g
  · subst h1
    by_cases h2 : x2 < t
    · go_enter Try.func75, Try.ntmps75
      go_wp2_with fail
      go_ret
      exact ⟨ret_bool (by simp [h2]), HB.out⟩
    · go_enter Try.func75, Try.ntmps75
      go_wp2_with fail
      go_ret
      exact ⟨ret_bool (by rw [decide_eq_false (by omega : ¬ x2 < t)]; simp), HB.out⟩
  · have h1b : (x1 == g) = false := by simpa using h1
    go_enter Try.func75, Try.ntmps75
    go_wp2_with fail
    go_ret
    exact ⟨ret_bool (by simp [h1]), HB.out⟩

set_option maxHeartbeats 400000 in
theorem contains_any (B : Nat) (a : Option Addr) (n c : Nat) (l : List Q) (pr : Q → Bool) (g : Nat) (lb : Array Value) (w : World) (eg : ∀ args w, (callFunc g args).run Try.prog w = .ok (.enter g args) w) (hx : QsIn B w a n l) (hB : B ≤ w.heap.size) (hn : n ≤ 9223372036854775807)
    (hp : ∀ W, Below w.heap.size w W → ∀ x, Calls Try.prog g (#[qv x] ++ lb) W fun e w' => e = .returned (.bool (pr x)) ∧ Below W.heap.size W w') :
    Calls Try.prog 63 #[.slice a n c, .func (.func g) #[] lb] w fun e w' => e = .returned (.bool (l.any pr)) ∧ Below w.heap.size w w' := by
  have C := Lib.hid (idxS_any B a n c l pr g lb w eg hx hB hn hp)
  clear eg hp hx
  go_enter Try.func63, Try.ntmps63
  go_wp2_with fail
  refine C.out.mono ?_
  rintro e w2 ⟨⟨r, rfl, hr⟩, hb2⟩
  have Hr := Lib.hid hr.any; clear hr
  have HB := Lib.hid hb2; clear hb2
  go_wp2_with fail
  go_ret
  exact ⟨ret_bool Hr.out, HB.out⟩

set_option maxHeartbeats 400000 in
theorem has_any {B : Nat} {w : World} {p : Nat} {F : Nat → Prop} {l : List Q} {room : Nat} (h : HA 59 B w p F l room) (id : Int) :
    Calls Try.prog 48 #[.pointer (some ⟨p, 0, none⟩), .int .i64 id] w fun e w' => e = .returned (.bool (l.any fun x => x.1 == id)) ∧ Below w.heap.size w w' := by
  obtain ⟨a, c, hc, ho, _⟩ := h.row
  have hll := h.len_le
  have hb1 : Below w.heap.size w (w.alloc (.cells #[.int .i64 id] 3)) := (Below.refl _ _).alloc (Nat.le_refl _) _
  have hq := (qs_of_own ho rfl).keep hb1
  have hc' : (w.alloc (.cells #[.int .i64 id] 3)).cell? ⟨p, 0, none⟩ = some (.slice a l.length c) := (hb1.cell (p := ⟨p, 0, none⟩) (block_lt (a := ⟨p, 0, none⟩) hc)).trans hc
  have hid := cell_newb w #[.int .i64 id] 3 _ 0 _ rfl rfl
  have hsz : w.heap.size < (w.alloc (.cells #[.int .i64 id] 3)).heap.size := by simp
  have eg : ∀ args w, (callFunc 64 args).run Try.prog w = .ok (.enter 64 args) w := enters_of Try.func64 (by kernel_rfl) rfl
  have C := Lib.hid (contains_any w.heap.size a l.length c l (fun x => x.1 == id) 64 #[.pointer (some ⟨w.heap.size, 0, none⟩)] (w.alloc (.cells #[.int .i64 id] 3)) eg hq (by omega) hll
    (fun W hW x => hasPred_any x id w.heap.size W ((hW.cell (p := ⟨w.heap.size, 0, none⟩) hsz).trans hid)))
  have Hb1 := Lib.hid hb1
  clear eg hq ho hc hid hb1
  go_enter Try.func48, Try.ntmps48
  go_wp2_with fail
  refine C.out.mono ?_
  rintro e w2 ⟨rfl, hb2⟩
  have Hb2 := Lib.hid hb2; clear hb2
  go_wp2_with fail
  go_ret
  exact ⟨rfl, Hb1.out.trans (Hb2.out.mono (by omega))⟩

set_option maxHeartbeats 800000 in
theorem free_any {B : Nat} {w : World} {p : Nat} {F : Nat → Prop} {l : List Q} {room : Nat} (h : HA 59 B w p F l room) (g f t : Int) :
    Calls Try.prog 68 #[.pointer (some ⟨p, 0, none⟩), .int .i64 g, .int .i64 f, .int .i64 t] w fun e w' => e = .returned (.bool (!(l.any (hits g f t)))) ∧ Below w.heap.size w w' := by
  obtain ⟨a, c, hc, ho, _⟩ := h.row
  have hll := h.len_le
  obtain ⟨w1, e1⟩ : ∃ w1, w.alloc (.cells #[.int .i64 g] 3) = w1 := ⟨_, rfl⟩
  have s1 : w1.heap.size = w.heap.size + 1 := by rw [← e1]; simp
  have b1 : Below w.heap.size w w1 := by rw [← e1]; exact (Below.refl _ _).alloc (Nat.le_refl _) _
  have c1 : w1.cell? ⟨w.heap.size, 0, none⟩ = some (.int .i64 g) := by rw [← e1]; exact cell_newb w _ 3 _ 0 _ rfl rfl
  obtain ⟨w2, e2⟩ : ∃ w2, w1.alloc (.cells #[.int .i64 f] 3) = w2 := ⟨_, rfl⟩
  have s2 : w2.heap.size = w.heap.size + 1 + 1 := by rw [← e2]; simp [s1]
  have b2 : Below w1.heap.size w1 w2 := by rw [← e2]; exact (Below.refl _ _).alloc (Nat.le_refl _) _
  have c2 : w2.cell? ⟨w.heap.size + 1, 0, none⟩ = some (.int .i64 f) := by rw [← e2]; exact cell_newb w1 _ 3 _ 0 _ s1.symm rfl
  obtain ⟨w3, e3⟩ : ∃ w3, w2.alloc (.cells #[.int .i64 t] 3) = w3 := ⟨_, rfl⟩
  have s3 : w3.heap.size = w.heap.size + 1 + 1 + 1 := by rw [← e3]; simp [s2]
  have b3 : Below w2.heap.size w2 w3 := by rw [← e3]; exact (Below.refl _ _).alloc (Nat.le_refl _) _
  have c3 : w3.cell? ⟨w.heap.size + 1 + 1, 0, none⟩ = some (.int .i64 t) := by rw [← e3]; exact cell_newb w2 _ 3 _ 0 _ s2.symm rfl
  have c1' := cell_at (cell_at c1 b2) b3
  have c2' := cell_at c2 b3
  have bb : Below w.heap.size w w3 := (b1.trans (b2.mono (by omega))).trans (b3.mono (by omega))
  have hq := (qs_of_own ho rfl).keep bb
  have hc' : w3.cell? ⟨p, 0, none⟩ = some (.slice a l.length c) := (bb.cell (p := ⟨p, 0, none⟩) (block_lt (a := ⟨p, 0, none⟩) hc)).trans hc
  have eg : ∀ args w, (callFunc 75 args).run Try.prog w = .ok (.enter 75 args) w := enters_of Try.func75 (by kernel_rfl) rfl
  have C := Lib.hid (contains_any w.heap.size a l.length c l (hits g f t) 75 #[.pointer (some ⟨w.heap.size, 0, none⟩), .pointer (some ⟨w.heap.size + 1 + 1, 0, none⟩), .pointer (some ⟨w.heap.size + 1, 0, none⟩)] w3 eg hq (by omega) hll
    (fun W hW x => freePred_any x g f t w.heap.size (w.heap.size + 1 + 1) (w.heap.size + 1) W (cell_at c1' hW) (cell_at c3 hW) (cell_at c2' hW)))
  have HB := Lib.hid bb
  have E1 := Lib.hid e1
  have E2 := Lib.hid e2
  have E3 := Lib.hid e3
  have S3 : w.heap.size ≤ w3.heap.size := bb.size
  clear eg hq ho hc c1 c2 c3 c1' c2' b1 b2 b3 bb s1 s2 s3 e1 e2 e3
  go_enter Try.func68, Try.ntmps68
  go_upto_region 1 with fail
  rw [E1.out, E2.out, E3.out]
  clear E1 E2 E3
  go_wp2_with fail
  refine C.out.mono ?_
  rintro e w4 ⟨rfl, hb4⟩
  have Hb4 := Lib.hid hb4; clear hb4
  go_wp2_with fail
  go_ret
  exact ⟨rfl, HB.out.trans (Hb4.out.mono S3)⟩

theorem snew_bad (room : Int) (w : World) (h : room < 1 ∨ 256 < room) :
    Calls Try.prog 31 #[.int .i64 room] w fun e w' => e = .returned (.tuple #[.pointer none, .int .i64 1]) ∧ w = w' := by
  by_cases h1 : room < 1
  all_goals
    go_enter Try.func31, Try.ntmps31
    go_wp2_with fail
    go_ret2
    exact ⟨rfl, rfl⟩
theorem snew_good (B room : Nat) (w : World) (h1 : 1 ≤ room) (h2 : room ≤ 256) (hB : B ≤ w.heap.size) :
    Calls Try.prog 31 #[.int .i64 room] w fun e w' => (∃ p F, e = .returned (.tuple #[.pointer (some ⟨p, 0, none⟩), .int .i64 0]) ∧ HA 59 B w' p F [] room ∧ (∀ k, F k → w.heap.size ≤ k)) ∧ Below w.heap.size w w' := by
  go_enter Try.func31, Try.ntmps31
  go_wp2_with fail
  go_ret2
  refine ⟨⟨w.heap.size, (· = w.heap.size), rfl, ⟨by simp, rfl, fun k hk => by subst hk; simp [hB], cell_newb _ _ _ _ 1 _ rfl rfl, fun o => by simp, none, 0, cell_newb _ _ _ _ 0 _ rfl rfl, World.ownsRow_nil _ _ _ _, by simp [Value.ownBlock]⟩, fun k hk => by omega⟩, (Below.refl _ _).alloc (Nat.le_refl _) _⟩
end Go.Proofs.Ytaogdgbijjjpjaa
