/- WALKS: Advance. -/
import Derived.Test.YthmbbbdnfgefbaaW4
import Derived.Laws.AppendOwnNone
namespace Go.Proofs.Ythmbbbdnfgefbaa
open Go.RowKit
set_option linter.unusedVariables false

/-- One place is cut of what is due. -/
def Whl.cut (S : Whl) (t : Int) (i : Nat) : Whl := { S.put i ((S.b i).filter fun d => !decide (d.1 ≤ t)) with n := S.n - ((S.b i).filter fun d => decide (d.1 ≤ t)).length }

/-- k places, one behind the other, from the wheel's time on; what came out. -/
def Whl.adv (S : Whl) (t : Int) : Nat → Whl × List (Int × Int)
  | 0 => (S, [])
  | k + 1 => (((S.adv t k).1.cut t ((S.now.toNat + k) % 64)), (S.adv t k).2 ++ ((S.adv t k).1.b ((S.now.toNat + k) % 64)).filter fun d => decide (d.1 ≤ t))

theorem filter_split {α : Type} (p : α → Bool) (l : List α) : (l.filter p).length + (l.filter fun x => !p x).length = l.length := by
  induction l with
  | nil => rfl
  | cons x l ih => by_cases h : p x <;> simp [h] <;> omega

theorem total_put (S : Whl) (i : Nat) (l : List (Int × Int)) (k : Nat) : (S.put i l).total k + (if i < k then (S.b i).length else 0) = S.total k + (if i < k then l.length else 0) := by
  induction k with
  | zero => simp [Whl.total]
  | succ k ih =>
    rw [total_succ, total_succ]
    by_cases h1 : i < k
    · simp only [h1, if_true, show i < k + 1 from by omega] at ih ⊢
      have : ((S.put i l).b k) = S.b k := by simp [Whl.put, show k ≠ i from by omega]
      rw [this]; omega
    · by_cases h2 : i = k
      · subst h2
        simp only [h1, if_false] at ih
        simp only [show i < i + 1 from by omega, if_true]
        have : ((S.put i l).b i) = l := by simp [Whl.put]
        rw [this]; omega
      · simp only [h1, if_false, show ¬ i < k + 1 from by omega] at ih ⊢
        have : ((S.put i l).b k) = S.b k := by simp [Whl.put, show k ≠ i from by omega]
        rw [this]; omega

theorem total_cut (S : Whl) (t : Int) (i : Nat) (hi : i < 64) : (S.cut t i).total 64 + ((S.b i).filter fun d => decide (d.1 ≤ t)).length = S.total 64 := by
  have h1 := total_put S i ((S.b i).filter fun d => !decide (d.1 ≤ t)) 64
  have h2 := filter_split (fun d : Int × Int => decide (d.1 ≤ t)) (S.b i)
  simp only [hi, if_true] at h1
  have e : (S.cut t i).total 64 = (S.put i ((S.b i).filter fun d => !decide (d.1 ≤ t))).total 64 := rfl
  omega

theorem Whl.Ok.cut {S : Whl} (h : S.Ok) (t : Int) (i : Nat) (hi : i < 64) : (S.cut t i).Ok := by
  have h1 := total_cut S t i hi
  refine ⟨?_, ?_, h.now⟩
  · show S.n - _ = _
    have := h.n; omega
  · show S.n - _ ≤ 1024
    have := h.le; omega

theorem Whl.adv_now (S : Whl) (t : Int) (k : Nat) : (S.adv t k).1.now = S.now ∧ (S.adv t k).1.room = S.room := by
  induction k with
  | zero => exact ⟨rfl, rfl⟩
  | succ k ih => exact ih

theorem Whl.Ok.adv {S : Whl} (h : S.Ok) (t : Int) (k : Nat) : (S.adv t k).1.Ok ∧ (S.adv t k).2.length + (S.adv t k).1.n = S.n := by
  induction k with
  | zero => exact ⟨h, by simp [Whl.adv]⟩
  | succ k ih =>
    refine ⟨ih.1.cut t _ (Nat.mod_lt _ (by omega)), ?_⟩
    have h1 := total_cut (S.adv t k).1 t ((S.now.toNat + k) % 64) (Nat.mod_lt _ (by omega))
    have h2 := ih.1.n
    have h3 := ih.2
    have h4 : (S.adv t (k + 1)).1.n = (S.adv t k).1.n - (((S.adv t k).1.b ((S.now.toNat + k) % 64)).filter fun d => decide (d.1 ≤ t)).length := rfl
    have h5 : (S.adv t (k + 1)).2.length = (S.adv t k).2.length + (((S.adv t k).1.b ((S.now.toNat + k) % 64)).filter fun d => decide (d.1 ≤ t)).length := by simp [Whl.adv]
    omega

/-- How many places an Advance looks at. -/
def places (S : Whl) (t : Int) : Nat := min 64 (t - S.now + 1).toNat

theorem advance_bad (B p : Nat) (F : Nat → Prop) (S : Whl) (t : Int) (w : World) (h : WheelAt B w p F S) (hb : t < S.now ∨ 1099511627776 < t) :
    Calls Try.prog 17 #[.pointer (some ⟨p, 0, none⟩), .int .i64 t] w fun e w' => e = .returned (.tuple #[.slice none 0 0, .int .i64 1]) ∧ Below w.heap.size w w' := by
  have hw1 : WheelAt B (w.alloc (.cells #[.int .i64 t] 3)) p F S := h.below ((Below.refl _ _).alloc (Nat.le_refl _) _)
  have c0 := cell_newb w #[.int .i64 t] 3 _ 0 _ rfl rfl
  have cn := hw1.now
  by_cases h1 : t < S.now
  · go_enter Try.func17, Try.ntmps17
    go_wp2_with fail
    go_quiet (fail)
    go_wp2_with fail
    go_ret2
    exact ⟨rfl, ⟨rfl, rfl, rfl, by simp, fun k hk => Below.heap_alloc _ _ _ hk⟩⟩
  · have h2 : 1099511627776 < t := by omega
    have h1' : S.now ≤ t := by omega
    go_enter Try.func17, Try.ntmps17
    go_wp2_with fail
    go_quiet (fail)
    go_wp2_with fail
    go_ret2
    exact ⟨rfl, ⟨rfl, rfl, rfl, by simp, fun k hk => Below.heap_alloc _ _ _ hk⟩⟩

set_option maxHeartbeats 2000000 in
set_option maxRecDepth 100000 in
theorem advance_good (B p : Nat) (F : Nat → Prop) (S : Whl) (t : Int) (w : World) (h : WheelAt B w p F S) (hB : B ≤ w.heap.size) (ok : S.Ok) (h1 : S.now ≤ t) (h2 : t ≤ 1099511627776) :
    Calls Try.prog 17 #[.pointer (some ⟨p, 0, none⟩), .int .i64 t] w fun e w' => ∃ (v : Value) (F' : Nat → Prop) (l : List (Int × Int)), e = .returned (.tuple #[v, .int .i64 0]) ∧ l.Perm (S.adv t (places S t)).2 ∧ l.Pairwise (fun x y => ltD y x = false) ∧
      w'.ownsRow w.heap.size 30 2 v l.length (l.flatMap dueC) ∧ WheelAt B w' p F' { (S.adv t (places S t)).1 with now := t } ∧ (∀ k, F' k → F k ∨ w.heap.size ≤ k) ∧ (∀ k, v.ownBlock = some k → ¬ F' k) ∧ Fr F w w' ∧ (l = [] → v = .slice none 0 0) := by
  have hw1 : WheelAt B (w.alloc (.cells #[.int .i64 t] 3)) p F S := h.below ((Below.refl _ _).alloc (Nat.le_refl _) _)
  have c0 := cell_newb w #[.int .i64 t] 3 _ 0 _ rfl rfl
  have hf1 : Fr F w (w.alloc (.cells #[.int .i64 t] 3)) := (Fr.refl _ _).alloc _
  have hs1e : (w.alloc (.cells #[.int .i64 t] 3)).heap.size = w.heap.size + 1 := by simp
  have cn := hw1.now
  have hFb : ¬ F w.heap.size := fun hF => by have := (h.flt _ hF).1; omega
  have eg : ∀ args w, (callFunc 32 args).run Try.prog w = .ok (.enter 32 args) w := enters_of Try.func32 (by kernel_rfl) rfl
  have CUT := Lib.hid (cut_any 32 eg t w.heap.size (fun d => decide (d.1 ≤ t)) (fun W d hc => duePred_any d t w.heap.size W hc))
  clear eg
  have hnow0 := ok.now
  obtain ⟨i0, ki, kz0, kz1, kz2⟩ := info_parts Try.info30
  obtain ⟨m, hm⟩ : ∃ m, places S t = m := ⟨_, rfl⟩
  have hmI : min (64 : Int) (t - S.now + 1) = (m : Int) := by rw [← hm]; unfold places; omega
  have hm64 : m ≤ 64 := by rw [← hm]; unfold places; omega
  rw [hm]
  have HmI := Lib.hid hmI
  clear hmI hm
  go_enter Try.func17, Try.ntmps17
  go_wp2_with fail
  go_quiet (fail)
  go_wp2_with fail
  go_quiet (fail)
  go_wp2_with fail
  rw [HmI.out]
  generalize hw2 : World.drewN (World.drewN _ _) _ = w2
  have hW2 : WheelAt B w2 p F S := by rw [← hw2]; exact (hw1.drewN _).drewN _
  have hf2 : Fr F w w2 := by rw [← hw2]; exact (hf1.drewN _).drewN _
  have ct : w2.cell? ⟨w.heap.size, 0, none⟩ = some (.int .i64 t) := by rw [← hw2]; exact c0
  have hs2 : w2.heap.size = w.heap.size + 1 := by rw [← hw2]; exact hs1e
  have Hs2 := Lib.hid hs2
  have hBw : B ≤ w2.heap.size := by omega
  clear hw2 hw1 hf1 c0 hs1e cn h hs2
  go_loopw [6, 26] (fun so sk wr => ∃ (k : Nat) (F' : Nat → Prop), k ≤ m ∧ sk = .int .i64 k ∧ wr.ownsRow w.heap.size 30 2 so (S.adv t k).2.length ((S.adv t k).2.flatMap dueC) ∧ Hid ((∀ g, so.ownBlock = some g → ¬ F' g ∧ g ≠ w.heap.size) ∧ ((S.adv t k).2 = [] → so = .slice none 0 0)) ∧ WheelAt B wr p F' (S.adv t k).1 ∧ Hid (∀ k, F' k → F k ∨ w.heap.size < k) ∧ Fr F w2 wr) (fun _ sk _ => m - (intOf sk).toNat)
  case atStart => exact ⟨0, F, Nat.zero_le _, rfl, by simpa [Whl.adv] using World.ownsRow_nil _ _ _ _, ⟨by simp [Value.ownBlock], fun _ => rfl⟩, hW2, fun k hk => .inl hk, Fr.refl _ _⟩
  case round =>
    obtain ⟨k, F', hk, rfl, hown, HOZ, hW, HF, hf⟩ := hrel
    have HZ := Lib.hid HOZ.out.2
    have HO := Lib.hid HOZ.out.1
    clear HOZ
    have hsz := hf.size
    by_cases hlt : k < m
    · have ctr : wr.cell? ⟨w.heap.size, 0, none⟩ = some (.int .i64 t) := by rw [hf.cell (p := ⟨w.heap.size, 0, none⟩) (by have := Hs2.out; simp; omega) hFb]; exact ct
      obtain ⟨i, hi⟩ : ∃ i, (S.now.toNat + k) % 64 = i := ⟨_, rfl⟩
      have hi64 : i < 64 := by omega
      have hidx : (S.now + (k : Int)) % 64 = (i : Int) := by omega
      obtain ⟨okk, hsum⟩ := ok.adv t k
      have hnow := (S.adv_now t k).1
      have hle := okk.le
      have hok := ok.le
      have hlen := okk.len i hi64
      have cnow := hW.now
      rw [hnow] at cnow
      have C := CUT.out B p F' (S.adv t k).1 wr hW (by omega) i hi64 ctr (by omega) hlen hle
      have e1 : { ((S.adv t k).1.put i (((S.adv t k).1.b i).filter fun d => !decide (d.1 ≤ t))) with n := (S.adv t k).1.n - (((S.adv t k).1.b i).filter fun d => decide (d.1 ≤ t)).length } = (S.adv t (k + 1)).1 := by simp only [Whl.adv, Whl.cut, hi]
      have e2 : (S.adv t (k + 1)).2 = (S.adv t k).2 ++ ((S.adv t k).1.b i).filter fun d => decide (d.1 ≤ t) := by simp only [Whl.adv, hi]
      rw [e1] at C
      have hsum2 := (ok.adv t (k + 1)).2
      generalize hS2 : (S.adv t (k + 1)).1 = S2 at *
      have HS2 := Lib.hid hS2; clear hS2
      generalize hol : (S.adv t k).2 = ol at *
      have hz2 : (S.adv t (k + 1)).2 = ol ++ ((S.adv t k).1.b i).filter fun d => decide (d.1 ≤ t) := e2
      generalize hnl : ((S.adv t k).1.b i).filter (fun d => decide (d.1 ≤ t)) = nl at *
      have HC := Lib.hid C
      have He2 := Lib.hid e2
      have hlens : ol.length + nl.length ≤ 1024 := by rw [e2] at hsum2; simp at hsum2; omega
      clear C e1 e2 hsum hsum2 okk hnow hlen hle hol hnl
      have hkI : (k : Int) < (m : Int) := by omega
      go_wp2_with fail
      refine HC.out.mono ?_
      rintro e w3 ⟨v, F3, rfl, hown3, hW3, hF3, hv3, hf3, hz3⟩
      have hoz : w3.ownsRow w.heap.size 30 2 u6 ol.length (ol.flatMap dueC) := ownsRow_keep hown fun g hg => hf3.block g (ownsRow_lt hown g hg) (HO.out g hg).1
      have HF3 : Hid (∀ k, F3 k → F k ∨ w.heap.size < k) := fun k hk => (hF3 k hk).elim (fun hk => HF.out k hk) (fun hk => .inr (by have := Hs2.out; omega))
      have hf3' : Fr F w2 w3 := hf.trans hf3 (fun _ _ h => h) (fun k hk h' => (HF.out k h').elim (fun x => x) (fun hk2 => by have := Hs2.out; omega))
      have hO3 : Hid (∀ g, Value.ownBlock u6 = some g → ¬ F3 g ∧ g ≠ w.heap.size) := fun g hg => ⟨fun hc => (hF3 g hc).elim (HO.out g hg).1 (fun h => by have := ownsRow_lt hown g hg; omega), (HO.out g hg).2⟩
      obtain ⟨av, cv, hfv⟩ := ownsRow_form hown3
      subst hfv
      have Hv3 := Lib.hid hv3
      have hs3 := hf3.size
      clear hv3 hown hW hf hf3 HO HF hF3 cnow
      by_cases hnl0 : nl.length = 0
      · have hnil : nl = [] := List.eq_nil_of_length_eq_zero hnl0
        have hvn := hz3 hnil
        simp only [Value.slice.injEq] at hvn
        obtain ⟨rfl, _, rfl⟩ := hvn
        subst hnil
        go_wp2_with (at_builtin; refine wpList_append_own_none rfl _ _ 28 rfl w.heap.size 30 i0 2 Try.underlying28 ki _ _ _ rfl hoz rfl ?_)
        go_wp2_with fail
        go_roundw
        case rel => exact ⟨k + 1, F3, by omega, by go_num, by rw [He2.out]; simpa using hoz, ⟨hO3.out, fun he => HZ.out (by rw [He2.out] at he; simpa using he)⟩, by rw [HS2.out]; exact hW3, HF3, hf3'⟩
        case measure => simp [intOf]; omega
      · obtain ⟨g3, c3, hv3, hg3, hg3lt, _, hcell3, _⟩ := ownsRow_cells hown3 (by omega)
        simp only [Value.slice.injEq] at hv3
        obtain ⟨hv31, _, hv32⟩ := hv3
        subst hv31
        clear hv32
        have hnews : ∀ j u, (nl.flatMap dueC)[j]? = some u → w3.cell? ((⟨g3, 0, none⟩ : Addr).add j) = some u := fun j u hu => by rw [add_none, Nat.zero_add]; exact hcell3 j u hu
        have hone : ∀ u ∈ nl.flatMap dueC, u.oneCell' = true := by
          intro u hu
          simp only [List.mem_flatMap] at hu
          obtain ⟨x, _, hu⟩ := hu
          simp [dueC] at hu
          rcases hu with rfl | rfl <;> rfl
        have Hnews := Lib.hid hnews
        have Hone := Lib.hid hone
        have hfl := flat_length nl
        have Hfl := Lib.hid hfl
        clear hnews hone hcell3 hz3 hown3 hfl
        have hnpos : 0 < nl.length := by omega
        have hbw3 : w.heap.size ≤ w3.heap.size := by have := Hs2.out; omega
        go_wp2_with (at_builtin; (refine wpList_append_lies _ rfl _ _ 28 rfl w.heap.size 30 i0 (.agg #[.int .i64 0, .int .i64 0]) 2 16 Try.underlying28 ki kz0 kz1 kz2 rfl (by decide) _ _ _ rfl hoz ⟨g3, 0, none⟩ nl.length cv (nl.flatMap dueC) rfl Hfl.out Hnews.out Hone.out hnpos (by unfold maxLen; omega) (by omega) (by omega) w3.heap.size rfl ?_))
        intro gg cap2 w4 hown4 hgrow hat hlt4
        have hW4 : WheelAt B w4 p F3 S2 := hW3.keep (T := fun k => Value.ownBlock u6 = some k) ⟨hgrow.os, hgrow.tape, hgrow.output, hgrow.size, fun k hk hne => hgrow.block k hk (fun e => hne e.symm)⟩ (fun k hk hc => (hO3.out k hc).1 hk)
        have hf4 : Fr F w2 w4 := hf3'.grown hgrow (fun g hg hlt => by
          have h1 := ownsRow_block hoz g hg
          have h2 := (hO3.out g hg).2
          have := Hs2.out
          omega)
        have hO4 : Hid (∀ g, (Value.slice (some ⟨gg, 0, none⟩) (ol.length + nl.length) cap2).ownBlock = some g → ¬ F3 g ∧ g ≠ w.heap.size) := by
          intro g hg
          simp only [Value.ownBlock, Option.some.injEq] at hg
          subst hg
          rcases hat with hat | hat
          · exact hO3.out gg hat
          · refine ⟨fun hc => by have := (hW3.flt gg hc).1; omega, ?_⟩
            have := Hs2.out; omega
        have hown4' : w4.ownsRow w.heap.size 30 2 (.slice (some ⟨gg, 0, none⟩) (ol.length + nl.length) cap2) (ol ++ nl).length ((ol ++ nl).flatMap dueC) := by simpa using hown4
        clear hown4 hgrow hat hW3 hf3' hO3 hoz
        go_wp2_with fail
        go_roundw
        case rel => exact ⟨k + 1, F3, by omega, by go_num, by rw [He2.out]; exact hown4', ⟨hO4.out, fun he => by rw [He2.out] at he; have := congrArg List.length he; simp at this; exfalso; obtain ⟨_, h0⟩ := this; subst h0; simp at hnpos⟩, by rw [HS2.out]; exact hW4, HF3, hf4⟩
        case measure => simp [intOf]; omega
    · obtain rfl : k = m := by omega
      have ctr : wr.cell? ⟨w.heap.size, 0, none⟩ = some (.int .i64 t) := by rw [hf.cell (p := ⟨w.heap.size, 0, none⟩) (by have := Hs2.out; simp; omega) hFb]; exact ct
      obtain ⟨ao, co, hfo⟩ := ownsRow_form hown
      subst hfo
      have cnow := hW.now
      have fnow := hW.fz 64
      have hsum := (ok.adv t k).2
      have hok := ok.le
      have hW5 := hW.setNow t
      have hown5 : (wr.setCell ⟨p, 64, none⟩ (.int .i64 t)).ownsRow w.heap.size 30 2 (.slice ao (S.adv t k).2.length co) (S.adv t k).2.length ((S.adv t k).2.flatMap dueC) :=
        ownsRow_keep hown fun g hg => Below.heap_setCell _ _ _ _ (fun e => (HO.out g hg).1 (by subst e; exact hW.fp))
      have hFp : F p := by
        rcases HF.out p hW.fp with h | h
        · exact h
        · have := hW2.p1; have := Hs2.out; omega
      have hf5 : Fr F w2 (wr.setCell ⟨p, 64, none⟩ (.int .i64 t)) := hf.setCell (p := ⟨p, 64, none⟩) hFp _
      have hSrt := Lib.hid (sort_own w.heap.size ao (S.adv t k).2.length co (S.adv t k).2 _ hown5 rfl (by omega))
      have hlt5 : (S.adv t k).2.length ≤ 1024 := by omega
      generalize hol : (S.adv t k).2 = ol at *
      generalize hS3 : (S.adv t k).1 = S3 at *
      have Hol := Lib.hid hol; clear hol
      have HS3 := Lib.hid hS3; clear hS3
      clear hown hW hf hown5 hsum
      go_wp2_with fail
      refine hSrt.out.mono ?_
      rintro e w6 ⟨rfl, l', hperm, hsorted, hown6, hf6⟩
      have hlen6 : l'.length = ol.length := hperm.length_eq
      go_wp2_with fail
      go_ret2
      have hob : ∀ q, ao.map (·.block) = some q → (Value.slice ao ol.length co).ownBlock = some q := fun q hc => by
        cases ao with
        | none => simp at hc
        | some x => simpa [Value.ownBlock] using hc
      rw [hlen6] at hown6
      refine ⟨_, F', l', rfl, by rw [Hol.out]; exact hperm, hsorted, by rw [hlen6]; exact hown6, by rw [HS3.out]; exact hW5.keep hf6 (fun q hq hc => (HO.out q (hob q hc)).1 hq), fun q hq => (HF.out q hq).imp (fun x => x) (fun h => by omega), fun q hq => (HO.out q hq).1, ?_, fun he => by subst he; simp at hlen6; exact HZ.out (List.eq_nil_of_length_eq_zero hlen6.symm)⟩
      · refine hf2.trans (U := F) (T := F) (hf5.trans (U := F) hf6 (fun _ _ h => h) (fun q hq hc => ?_)) (fun _ _ h => h) (fun _ _ h => h)
        exfalso
        have hq2 := hob q hc
        have h1 := ownsRow_block hown6 q hq2
        have h2 := (HO.out q hq2).2
        have := Hs2.out
        omega
end Go.Proofs.Ythmbbbdnfgefbaa
