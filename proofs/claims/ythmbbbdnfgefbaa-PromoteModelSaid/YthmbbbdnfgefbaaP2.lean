/- WALKS: promote: New, Wait, Drop, Waiting, Advance. -/
import Derived.Test.YthmbbbdnfgefbaaP1
import Derived.Test.YthmbbbdnfgefbaaW9
namespace Go.Proofs.Ythmbbbdnfgefbaa
open Go.RowKit
set_option linter.unusedVariables false

/-- A promoter at block q over a wheel at block p. -/
structure PX (w0 w : World) (q p room : Nat) (F : Nat → Prop) (now : Int) (m : List (Int × Int)) : Prop where
  a : WH w0.heap.size w p F room now m
  c : w.cell? ⟨q, 0, none⟩ = some (.pointer (some ⟨p, 0, none⟩))
  nf : ¬ F q
  b : w0.heap.size ≤ q
  bel : Below w0.heap.size w0 w
theorem PX.lt {w0 w : World} {q p room : Nat} {F : Nat → Prop} {now : Int} {m : List (Int × Int)} (h : PX w0 w q p room F now m) : q < w.heap.size := block_lt h.c
theorem PX.turn {w0 w w' : World} {q p room : Nat} {F F' : Nat → Prop} {now now' : Int} {m m' : List (Int × Int)} (h : PX w0 w q p room F now m) (h' : WH w0.heap.size w' p F' room now' m') (hF : ∀ k, F' k → F k ∨ w.heap.size ≤ k) (hf : Fr F w w') :
    PX w0 w' q p room F' now' m' :=
  ⟨h', (hf.cell (p := ⟨q, 0, none⟩) h.lt h.nf).trans h.c, fun hk => (hF q hk).elim h.nf fun hk => by have := h.lt; omega, h.b, fr_below h.bel hf fun k hk => (h.a.flt k hk).2⟩
theorem PX.keep {w0 w w' : World} {q p room : Nat} {F T : Nat → Prop} {now : Int} {m : List (Int × Int)} (h : PX w0 w q p room F now m) (hf : Fr T w w') (hT : ∀ k, F k → ¬ T k) (hq : ¬ T q) (hb : ∀ k, T k → w0.heap.size ≤ k) : PX w0 w' q p room F now m :=
  ⟨h.a.keep hf hT, (hf.cell (p := ⟨q, 0, none⟩) h.lt hq).trans h.c, h.nf, h.b, fr_below h.bel hf hb⟩
theorem PX.below {w0 w w' : World} {q p room : Nat} {F : Nat → Prop} {now : Int} {m : List (Int × Int)} (h : PX w0 w q p room F now m) (hb : Below w.heap.size w w') : PX w0 w' q p room F now m :=
  h.keep (T := fun _ => False) (Fr.of_below hb) (by simp) (by simp) (by simp)

theorem pnew_bad (room : Int) (w : World) (h : room < 1 ∨ 1024 < room) :
    Calls Try.prog 23 #[.int .i64 room] w fun e w' => e = .returned (.tuple #[.pointer none, .int .i64 1]) ∧ w = w' := by
  have N := Lib.hid (new_bad room w h)
  go_enter Try.func23, Try.ntmps23
  go_wp2_with fail
  refine N.out.mono ?_
  rintro e w' ⟨rfl, rfl⟩
  go_wp2_with fail
  go_ret2
  exact ⟨rfl, rfl⟩

theorem PX.new {w0 w : World} (hb : Below w0.heap.size w0 w) (room : Nat) (h1 : 1 ≤ room) (h2 : room ≤ 1024) :
    Calls Try.prog 23 #[.int .i64 room] w fun e w' => ∃ q p F, e = .returned (.tuple #[.pointer (some ⟨q, 0, none⟩), .int .i64 0]) ∧ PX w0 w' q p room F 0 [] ∧ (∀ k, F k → w.heap.size ≤ k) ∧ w.heap.size ≤ q ∧ Below w.heap.size w w' := by
  have N := Lib.hid (new_m w0.heap.size room w h1 h2 hb.size)
  have hbs := hb.size
  go_enter Try.func23, Try.ntmps23
  go_wp2_with fail
  refine N.out.mono ?_
  rintro e w' ⟨⟨p, F, rfl, hW, hF⟩, hb'⟩
  go_wp2_with fail
  go_ret2
  have hs := hb'.size
  refine ⟨w'.heap.size, p, F, rfl, ⟨hW.below ((Below.refl _ _).alloc (Nat.le_refl _) _), cell_newb _ _ _ _ 0 _ rfl rfl, fun hk => by have := (hW.flt _ hk).1; omega, by omega, hb.trans ((hb'.mono hbs).alloc (by omega) _)⟩, hF, hs, hb'.alloc hs _⟩

/-- WAIT, plain. -/
def waitM (now room : Int) (m : List (Int × Int)) (id release d r : Int) : Int × Int × List (Int × Int) :=
  if (offM d r).2 = false ∨ (sumM release (offM d r).1).2 = false then (0, 1, m)
  else if (addM now room m ((sumM release (offM d r).1).1, id)).1 ≠ 0 then (0, (addM now room m ((sumM release (offM d r).1).1, id)).1, m)
  else ((sumM release (offM d r).1).1, 0, (addM now room m ((sumM release (offM d r).1).1, id)).2)

theorem addM_err {now room : Int} {m : List (Int × Int)} {d : Int × Int} (h : (addM now room m d).1 ≠ 0) : (addM now room m d).2 = m := by
  unfold addM at h ⊢
  by_cases h1 : d.1 < now ∨ 1099511627776 < d.1
  · rw [if_pos h1]
  · rw [if_neg h1] at h ⊢
    by_cases h2 : (m.any fun x => x.2 == d.2) = true
    · rw [if_pos h2]
    · rw [if_neg h2] at h ⊢
      by_cases h3 : (m.length : Int) = room
      · rw [if_pos h3]
      · rw [if_neg h3] at h; simp at h

set_option maxHeartbeats 2000000 in
theorem PX.wait {w0 w : World} {q p room : Nat} {F : Nat → Prop} {now : Int} {m : List (Int × Int)} (h : PX w0 w q p room F now m) (id release d r : Int) (hd : d ≤ 9223372036854775807) :
    Calls Try.prog 24 #[.pointer (some ⟨q, 0, none⟩), .int .i64 id, .int .i64 release, .int .i64 d, .int .i64 r] w fun e w' =>
      e = .returned (.tuple #[.int .i64 (waitM now room m id release d r).1, .int .i64 (waitM now room m id release d r).2.1]) ∧ ∃ F', PX w0 w' q p room F' now (waitM now room m id release d r).2.2 ∧ (∀ k, F' k → F k ∨ w.heap.size ≤ k) ∧ Fr F w w' := by
  have N := Lib.hid (offset_any d r w hd)
  obtain ⟨n, ok, hno⟩ : ∃ n ok, offM d r = (n, ok) := ⟨_, _, rfl⟩
  rw [hno] at N
  have S := Lib.hid (tickAdd_any release n w)
  obtain ⟨t, fits, hst⟩ : ∃ t fits, sumM release n = (t, fits) := ⟨_, _, rfl⟩
  rw [hst] at S
  have hc := h.c
  have A := Lib.hid (add_m h.a h.bel.size (t, id))
  have HX := Lib.hid h
  clear h
  by_cases hbad : ok = false ∨ fits = false
  · have E : Hid (waitM now room m id release d r = (0, 1, m)) := by show _ = _; unfold waitM; rw [hno, hst, if_pos hbad]
    clear hno hst A
    have fin : ∀ w', w = w' → ∃ F', PX w0 w' q p room F' now (waitM now room m id release d r).2.2 ∧ (∀ k, F' k → F k ∨ w.heap.size ≤ k) ∧ Fr F w w' := by
      rintro w' rfl
      rw [E.out]
      exact ⟨F, HX.out, fun k hk => .inl hk, Fr.refl _ _⟩
    have Fin := Lib.hid fin
    clear fin hc
    cases ok
    · clear hbad
      go_enter Try.func24, Try.ntmps24
      go_wp2_with fail
      refine N.out.mono ?_
      rintro e w1 ⟨rfl, rfl⟩
      go_wp2_with fail
      refine S.out.mono ?_
      rintro e w1 ⟨rfl, rfl⟩
      go_wp2_with fail
      go_ret2
      exact ⟨by rw [E.out]; rfl, Fin.out _ rfl⟩
    · obtain rfl : fits = false := by simpa using hbad
      clear hbad
      go_enter Try.func24, Try.ntmps24
      go_wp2_with fail
      refine N.out.mono ?_
      rintro e w1 ⟨rfl, rfl⟩
      go_wp2_with fail
      refine S.out.mono ?_
      rintro e w1 ⟨rfl, rfl⟩
      go_wp2_with fail
      go_ret2
      exact ⟨by rw [E.out]; rfl, Fin.out _ rfl⟩
  · have h1 : ok = true := by cases ok <;> simp_all
    have h2 : fits = true := by cases fits <;> simp_all
    subst h1 h2
    clear hbad
    obtain ⟨r1, m1, hA⟩ : ∃ r1 m1, addM now room m (t, id) = (r1, m1) := ⟨_, _, rfl⟩
    rw [hA] at A
    by_cases h0 : r1 = 0
    · subst h0
      have E : Hid (waitM now room m id release d r = (t, 0, m1)) := by show _ = _; unfold waitM; rw [hno, hst, if_neg (by simp)]; simp [hA]
      clear hno hst hA
      go_enter Try.func24, Try.ntmps24
      go_wp2_with fail
      refine N.out.mono ?_
      rintro e w1 ⟨rfl, rfl⟩
      go_wp2_with fail
      refine S.out.mono ?_
      rintro e w1 ⟨rfl, rfl⟩
      go_wp2_with fail
      refine A.out.mono ?_
      rintro e w2 ⟨rfl, F', hW, hF, hf⟩
      go_wp2_with fail
      go_ret2
      rw [E.out]
      exact ⟨rfl, F', HX.out.turn hW hF hf, hF, hf⟩
    · have E : Hid (waitM now room m id release d r = (0, r1, m)) := by show _ = _; unfold waitM; rw [hno, hst, if_neg (by simp)]; simp [hA, h0]
      have hm1 : m1 = m := by have := addM_err (now := now) (room := room) (m := m) (d := (t, id)) (by rw [hA]; exact h0); rw [hA] at this; exact this
      subst hm1
      have h0b : (r1 != 0) = true := by simpa using h0
      clear hno hst hA h0
      go_enter Try.func24, Try.ntmps24
      go_wp2_with fail
      refine N.out.mono ?_
      rintro e w1 ⟨rfl, rfl⟩
      go_wp2_with fail
      refine S.out.mono ?_
      rintro e w1 ⟨rfl, rfl⟩
      go_wp2_with fail
      refine A.out.mono ?_
      rintro e w2 ⟨rfl, F', hW, hF, hf⟩
      go_wp2_with fail
      go_ret2
      rw [E.out]
      exact ⟨rfl, F', HX.out.turn hW hF hf, hF, hf⟩

theorem PX.drop {w0 w : World} {q p room : Nat} {F : Nat → Prop} {now : Int} {m : List (Int × Int)} (h : PX w0 w q p room F now m) (id : Int) :
    Calls Try.prog 25 #[.pointer (some ⟨q, 0, none⟩), .int .i64 id] w fun e w' => e = .returned (.bool (m.any fun d => d.2 == id)) ∧ ∃ F', PX w0 w' q p room F' now (m.filter fun d => !(d.2 == id)) ∧ (∀ k, F' k → F k ∨ w.heap.size ≤ k) ∧ Fr F w w' := by
  have hc := h.c
  have A := Lib.hid (cancel_m h.a h.bel.size id)
  have HX := Lib.hid h
  clear h
  go_enter Try.func25, Try.ntmps25
  go_wp2_with fail
  refine A.out.mono ?_
  rintro e w2 ⟨rfl, F', hW, hF, hf⟩
  go_wp2_with fail
  go_ret
  exact ⟨rfl, F', HX.out.turn hW hF hf, hF, hf⟩

theorem PX.waiting {w0 w : World} {q p room : Nat} {F : Nat → Prop} {now : Int} {m : List (Int × Int)} (h : PX w0 w q p room F now m) :
    Calls Try.prog 27 #[.pointer (some ⟨q, 0, none⟩)] w fun e w' => e = .returned (.int .i64 m.length) ∧ w = w' := by
  have hc := h.c
  have A := Lib.hid (len_m h.a)
  clear h
  go_enter Try.func27, Try.ntmps27
  go_wp2_with fail
  refine A.out.mono ?_
  rintro e w2 ⟨rfl, rfl⟩
  go_wp2_with fail
  go_ret
  exact ⟨rfl, rfl⟩

theorem PX.adv_bad {w0 w : World} {q p room : Nat} {F : Nat → Prop} {now : Int} {m : List (Int × Int)} (h : PX w0 w q p room F now m) (t : Int) (hb : t < now ∨ 1099511627776 < t) :
    Calls Try.prog 26 #[.pointer (some ⟨q, 0, none⟩), .int .i64 t] w fun e w' => e = .returned (.tuple #[.slice none 0 0, .int .i64 1]) ∧ PX w0 w' q p room F now m ∧ Below w.heap.size w w' := by
  have hc := h.c
  have A := Lib.hid (advance_bad_m h.a t hb)
  have HX := Lib.hid h
  clear h hb
  go_enter Try.func26, Try.ntmps26
  go_wp2_with fail
  refine A.out.mono ?_
  rintro e w2 ⟨rfl, hb2⟩
  go_wp2_with fail
  go_loop [8, 22] (fun so s => so = .slice none 0 0 ∧ s = .int .i64 0) (fun _ _ => 0)
  case atStart => exact ⟨rfl, rfl⟩
  case round =>
    obtain ⟨rfl, rfl⟩ := hrel
    go_wp2_with fail
    go_ret2
    exact ⟨rfl, HX.out.below hb2, hb2⟩

theorem Try.info3 : (Try.prog.info? 3).map (fun i => (i.zero, i.size, i.bytes)) = some (some (.int .i64 0), 1, 8) := by kernel_rfl

/-- Numbers that are read. -/
def IntsIn (B : Nat) (w : World) (a : Option Addr) (n : Nat) (xs : List Int) : Prop :=
  xs.length = n ∧ (0 < n → ∃ b off, a = some ⟨b, off, none⟩ ∧ b < B ∧ ∀ j (h : j < xs.length), w.cell? ⟨b, off + j, none⟩ = some (.int .i64 xs[j]))
def intC (x : Int) : Value := .int .i64 x

set_option maxHeartbeats 2000000 in
theorem PX.adv {w0 w : World} {q p room : Nat} {F : Nat → Prop} {now : Int} {m : List (Int × Int)} (h : PX w0 w q p room F now m) (t : Int) (h1 : now ≤ t) (h2 : t ≤ 1099511627776) :
    Calls Try.prog 26 #[.pointer (some ⟨q, 0, none⟩), .int .i64 t] w fun e w' => ∃ (v : Value) (F' : Nat → Prop), e = .returned (.tuple #[v, .int .i64 0]) ∧
      w'.ownsRow w.heap.size 3 1 v (m.filter fun d => decide (d.1 ≤ t)).length ((m.filter fun d => decide (d.1 ≤ t)).map fun d => intC d.2) ∧
      PX w0 w' q p room F' t (m.filter fun d => !decide (d.1 ≤ t)) ∧ (∀ k, F' k → F k ∨ w.heap.size ≤ k) ∧ (∀ k, v.ownBlock = some k → ¬ F' k) ∧ Fr F w w' := by
  have hc := h.c
  have A := Lib.hid (advance_m h.a h.bel.size t h1 h2)
  have hlen : (m.filter fun d => decide (d.1 ≤ t)).length ≤ 1024 := Nat.le_trans (List.length_filter_le _ _) (by have := h.a.len; omega)
  have HX := Lib.hid h
  clear h h1 h2
  generalize hol : (m.filter fun d => decide (d.1 ≤ t)) = ol at *
  generalize hrl : (m.filter fun d => !decide (d.1 ≤ t)) = rl at *
  clear hol hrl
  obtain ⟨i0, ki, kz0, kz1, kz2⟩ := info_parts Try.info3
  go_enter Try.func26, Try.ntmps26
  go_wp2_with fail
  refine A.out.mono ?_
  rintro e w2 ⟨v, F', rfl, hown, hW, hF, hv, hf, hz⟩
  obtain ⟨a, c, rfl⟩ := ownsRow_form hown
  have hD := dues_of_own hown rfl
  have Hfin := Lib.hid (HX.out.turn hW hF hf)
  have HF := Lib.hid hF
  have Hf := Lib.hid hf
  have hs2 := hf.size
  have Hflt : Hid (∀ k, F' k → k < w2.heap.size) := fun k hk => (hW.flt k hk).1
  clear hown hW hv hz hF hf
  go_wp2_with fail
  go_loopw [8, 22] (fun so sk wr => ∃ k : Nat, k ≤ ol.length ∧ sk = .int .i64 k ∧ wr.ownsRow w2.heap.size 3 1 so k ((ol.take k).map fun d => intC d.2) ∧ Below w2.heap.size w2 wr) (fun _ sk _ => ol.length - (intOf sk).toNat)
  case atStart => exact ⟨0, Nat.zero_le _, rfl, World.ownsRow_nil _ _ _ _, Below.refl _ _⟩
  case round =>
    obtain ⟨k, hk, rfl, ho, hb⟩ := hrel
    by_cases hlt : k < ol.length
    · obtain ⟨b, off, rfl, hbB, hcc⟩ := (hD.keep hb).2 (by omega)
      have hcell := hcc k hlt
      have ht : (ol.take (k + 1)).map (fun d => intC d.2) = (ol.take k).map (fun d => intC d.2) ++ [intC ol[k].2] := by rw [List.take_succ_eq_append_getElem hlt, List.map_append]; rfl
      generalize hT : (ol.take (k + 1)).map (fun d => intC d.2) = T at *
      have HT := Lib.hid hT
      have Ht := Lib.hid ht
      clear hT ht
      generalize ol[k] = d at *
      generalize (ol.take k).map (fun d => intC d.2) = T0 at *
      have HD := Lib.hid hD
      have hkI : (k : Int) < (ol.length : Int) := by omega
      obtain ⟨c0, c1⟩ := hcell
      have hsz := hb.size
      have z1 := cell_newb wr #[.int .i64 d.1, .int .i64 d.2] 30 _ 1 _ rfl rfl
      clear hcc hD
      go_wp2_with (at_builtin; refine wpList_append_lies _ rfl _ _ 61 rfl w2.heap.size 3 i0 (.int .i64 0) 1 8 Try.underlying61 ki kz0 kz1 kz2 rfl (by decide) _ _ _ rfl ((ho.alloc _).alloc _) ⟨wr.heap.size + 1, 0, none⟩ 1 1 [intC d.2] rfl rfl (fun j u hu => by have := cell_new (wr.alloc (.cells #[.int .i64 d.1, .int .i64 d.2] 30)) #[.int .i64 d.2] 3 j u hu; simpa using this) (by simp [intC, Value.oneCell']) (by omega) (by unfold maxLen; omega) (by omega) (by simp; omega) (wr.heap.size + 2) (by simp) ?_)
      intro gg cap2 w6 hown6 hgrow hat hlt6
      have hb6 : Below w2.heap.size w2 w6 := ((hb.alloc hsz _).alloc (by simp; omega) _).grown hgrow (by simp; omega) (fun j e => ownsRow_block ho j e)
      rw [← Ht.out] at hown6
      clear hgrow hat ho z1 c0 c1
      go_wp2_with fail
      go_roundw
      case rel => exact ⟨k + 1, by omega, by go_num, by rw [HT.out]; exact hown6, hb6⟩
      case measure => simp [intOf]; omega
    · obtain rfl : k = ol.length := by omega
      rw [List.take_of_length_le (Nat.le_refl _)] at ho
      have hob := ownsRow_block ho
      have Hob := Lib.hid hob
      clear hob
      go_wp2_with fail
      go_ret2
      exact ⟨_, F', rfl, ownsRow_base ho hs2, Hfin.out.below hb, HF.out, fun g hg hk => by have := Hob.out g hg; have := Hflt.out g hk; omega, Hf.out.trans (Fr.of_below (S := F) hb) (fun _ _ h => h) (fun _ _ h => h)⟩
end Go.Proofs.Ythmbbbdnfgefbaa
