/- WALKS: cut. -/
import Derived.Test.YthmbbbdnfgefbaaW3
namespace Go.Proofs.Ythmbbbdnfgefbaa
open Go.RowKit
set_option linter.unusedVariables false

set_option maxHeartbeats 400000 in
theorem cancelPred_any (d : Int × Int) (id : Int) (Bc : Nat) (w : World) (hc : w.cell? ⟨Bc, 0, none⟩ = some (.int .i64 id)) :
    Calls Try.prog 31 #[.agg #[.int .i64 d.1, .int .i64 d.2], .pointer (some ⟨Bc, 0, none⟩)] w fun e w' => e = .returned (.bool (d.2 == id)) ∧ Below w.heap.size w w' := by
  have hc' : (w.alloc (.cells #[.int .i64 d.1, .int .i64 d.2] 30)).cell? ⟨Bc, 0, none⟩ = some (.int .i64 id) := by rw [World.cell?_alloc_lt w _ _ (block_lt hc)]; exact hc
  go_enter Try.func31, Try.ntmps31
  go_wp2_with fail
  go_ret
  exact ⟨rfl, (Below.refl _ _).alloc (Nat.le_refl _) _⟩

set_option maxHeartbeats 400000 in
theorem duePred_any (d : Int × Int) (t : Int) (Bc : Nat) (w : World) (hc : w.cell? ⟨Bc, 0, none⟩ = some (.int .i64 t)) :
    Calls Try.prog 32 #[.agg #[.int .i64 d.1, .int .i64 d.2], .pointer (some ⟨Bc, 0, none⟩)] w fun e w' => e = .returned (.bool (decide (d.1 ≤ t))) ∧ Below w.heap.size w w' := by
  have hc' : (w.alloc (.cells #[.int .i64 d.1, .int .i64 d.2] 30)).cell? ⟨Bc, 0, none⟩ = some (.int .i64 t) := by rw [World.cell?_alloc_lt w _ _ (block_lt hc)]; exact hc
  go_enter Try.func32, Try.ntmps32
  go_wp2_with fail
  go_ret
  exact ⟨rfl, (Below.refl _ _).alloc (Nat.le_refl _) _⟩

theorem filter_take_succ {α : Type} (p : α → Bool) (l : List α) (k : Nat) (h : k < l.length) : (l.take (k + 1)).filter p = (l.take k).filter p ++ if p l[k] then [l[k]] else [] := by
  rw [List.take_succ_eq_append_getElem h, List.filter_append]
  by_cases hp : p l[k] <;> simp [hp]

/-- What is known of the two rows that a cut makes. -/
structure CutRows (n0 : Nat) (w : World) (vo vr : Value) (lo lr : List (Int × Int)) : Prop where
  o : w.ownsRow n0 30 2 vo lo.length (lo.flatMap dueC)
  r : w.ownsRow n0 30 2 vr lr.length (lr.flatMap dueC)
  ne : ∀ g, vo.ownBlock = some g → vr.ownBlock ≠ some g
  z : lo = [] → vo = .slice none 0 0

theorem CutRows.keep {n0 : Nat} {w w' : World} {vo vr : Value} {lo lr : List (Int × Int)} (h : CutRows n0 w vo vr lo lr) (hb : Below w.heap.size w w') : CutRows n0 w' vo vr lo lr :=
  ⟨ownsRow_keep h.o fun k hk => hb.block k (ownsRow_lt h.o k hk), ownsRow_keep h.r fun k hk => hb.block k (ownsRow_lt h.r k hk), h.ne, h.z⟩

theorem CutRows.addO {n0 : Nat} {w W w' : World} {vo vr : Value} {lo lr : List (Int × Int)} (h : CutRows n0 w vo vr lo lr) (hW : Below w.heap.size w W) {d : Int × Int} {g cap H : Nat}
    (hown : w'.ownsRow n0 30 2 (.slice (some ⟨g, 0, none⟩) (lo.length + 1) cap) (lo.length + 1) (lo.flatMap dueC ++ dueC d)) (hg : W.grownBy w' vo.ownBlock) (hat : vo.ownBlock = some g ∨ g = H) (hH : w.heap.size ≤ H) :
    CutRows n0 w' (.slice (some ⟨g, 0, none⟩) (lo.length + 1) cap) vr (lo ++ [d]) lr := by
  refine ⟨by simpa using hown, ownsRow_keep h.r fun k hk => ?_, fun g' hg' hr => ?_, by simp⟩
  · have hlt := ownsRow_lt h.r k hk
    rw [hg.block k (Nat.lt_of_lt_of_le hlt hW.size) (fun e => h.ne k e.symm hk)]
    exact hW.block k hlt
  · simp only [Value.ownBlock, Option.some.injEq] at hg'
    subst hg'
    have hlt := ownsRow_lt h.r g hr
    rcases hat with hat | hat
    · exact h.ne g hat hr
    · omega

theorem CutRows.addR {n0 : Nat} {w W w' : World} {vo vr : Value} {lo lr : List (Int × Int)} (h : CutRows n0 w vo vr lo lr) (hW : Below w.heap.size w W) {d : Int × Int} {g cap H : Nat}
    (hown : w'.ownsRow n0 30 2 (.slice (some ⟨g, 0, none⟩) (lr.length + 1) cap) (lr.length + 1) (lr.flatMap dueC ++ dueC d)) (hg : W.grownBy w' vr.ownBlock) (hat : vr.ownBlock = some g ∨ g = H) (hH : w.heap.size ≤ H) :
    CutRows n0 w' vo (.slice (some ⟨g, 0, none⟩) (lr.length + 1) cap) lo (lr ++ [d]) := by
  refine ⟨ownsRow_keep h.o fun k hk => ?_, by simpa using hown, fun g' hg' hr => ?_, h.z⟩
  · have hlt := ownsRow_lt h.o k hk
    rw [hg.block k (Nat.lt_of_lt_of_le hlt hW.size) (fun e => h.ne k hk e.symm)]
    exact hW.block k hlt
  · simp only [Value.ownBlock, Option.some.injEq] at hr
    subst hr
    have hlt := ownsRow_lt h.o g hg'
    rcases hat with hat | hat
    · exact h.ne g hg' hat
    · omega

set_option maxHeartbeats 2000000 in
set_option maxRecDepth 100000 in
theorem cut_any (g : Nat) (eg : ∀ args w, (callFunc g args).run Try.prog w = .ok (.enter g args) w) (x : Int) (Bc : Nat) (pr : Int × Int → Bool)
    (hP : ∀ (W : World) (d : Int × Int), W.cell? ⟨Bc, 0, none⟩ = some (.int .i64 x) → Calls Try.prog g #[.agg #[.int .i64 d.1, .int .i64 d.2], .pointer (some ⟨Bc, 0, none⟩)] W fun e w' => e = .returned (.bool (pr d)) ∧ Below W.heap.size W w')
    (B p : Nat) (F : Nat → Prop) (S : Whl) (w : World) (h : WheelAt B w p F S) (hB : B ≤ w.heap.size) (i : Nat) (hi : i < 64) (hBc : w.cell? ⟨Bc, 0, none⟩ = some (.int .i64 x)) (hl : (S.b i).length ≤ 1024) (hn : (S.b i).length ≤ S.n) (hn2 : S.n ≤ 1024) :
    Calls Try.prog 30 #[.pointer (some ⟨p, 0, none⟩), .int .i64 i, .func (.func g) #[] #[.pointer (some ⟨Bc, 0, none⟩)]] w fun e w' => ∃ v F', e = .returned v ∧
      w'.ownsRow w.heap.size 30 2 v ((S.b i).filter pr).length (((S.b i).filter pr).flatMap dueC) ∧
      WheelAt B w' p F' { S.put i ((S.b i).filter fun d => !pr d) with n := S.n - ((S.b i).filter pr).length } ∧ (∀ k, F' k → F k ∨ w.heap.size ≤ k) ∧ (∀ k, v.ownBlock = some k → ¬ F' k) ∧ Fr F w w' ∧ ((S.b i).filter pr = [] → v = .slice none 0 0) := by
  obtain ⟨vs, hv1, hv2⟩ := h.row
  obtain ⟨cv, hown, hblk⟩ := hv1 i hi
  obtain ⟨a, cap, hform⟩ := ownsRow_form hown
  rw [hform] at cv hown
  have hD := dues_of_own hown rfl
  obtain ⟨i0, ki, kz0, kz1, kz2⟩ := info_parts Try.info30
  have hBc2 := block_lt hBc
  have HP := Lib.hid hP
  have Hv1 := Lib.hid hv1
  have Hblk := Lib.hid hblk
  have Hform := Lib.hid hform
  clear hP hv1 hv2 hown hblk hform
  generalize hL : S.b i = l at *
  have HL := Lib.hid hL; clear hL
  have hbase : w.heap.size ≤ w.heap.size := Nat.le_refl _
  go_enter Try.func30, Try.ntmps30
  go_wp2_with fail
  go_loopw [7, 8, 18] (fun so sr sk wr => ∃ (k : Nat), k ≤ l.length ∧ sk = .int .i64 k ∧ CutRows w.heap.size wr so sr ((l.take k).filter pr) ((l.take k).filter fun d => !pr d) ∧ Below w.heap.size w wr) (fun _ _ sk _ => l.length - (intOf sk).toNat)
  case atStart => exact ⟨0, Nat.zero_le _, rfl, ⟨by simpa using World.ownsRow_nil _ _ _ _, by simpa using World.ownsRow_nil _ _ _ _, by simp [Value.ownBlock], fun _ => rfl⟩, Below.refl _ _⟩
  case round =>
    obtain ⟨k, hk, rfl, hR, hb⟩ := hrel
    have hsz := hb.size
    by_cases hlt : k < l.length
    · obtain ⟨b, off, rfl, hbB, hcc⟩ := (hD.keep hb).2 (by omega)
      have hcell := hcc k hlt
      have hto := filter_take_succ pr l k hlt
      have htr := filter_take_succ (fun d => !pr d) l k hlt
      have hlo : ((l.take k).filter pr).length ≤ k := Nat.le_trans (List.length_filter_le _ _) (List.length_take_le _ _)
      have hlr : ((l.take k).filter fun d => !pr d).length ≤ k := Nat.le_trans (List.length_filter_le _ _) (List.length_take_le _ _)
      generalize l[k] = d at *
      generalize (l.take k).filter pr = lo at *
      generalize ((l.take k).filter fun d => !pr d) = lr at *
      generalize hlo' : (l.take (k + 1)).filter pr = lo' at *
      generalize hlr' : ((l.take (k + 1)).filter fun d => !pr d) = lr' at *
      have Hlo' := Lib.hid hlo'; clear hlo'
      have Hlr' := Lib.hid hlr'; clear hlr'
      have Hto := Lib.hid hto
      have Htr := Lib.hid htr
      have HD := Lib.hid hD
      clear hto htr hcc hD
      obtain ⟨c0, c1⟩ := hcell
      have hkI : (k : Int) < (l.length : Int) := by omega
      have hcw : (wr.alloc (.cells #[.int .i64 d.1, .int .i64 d.2] 30)).cell? ⟨Bc, 0, none⟩ = some (.int .i64 x) := by
        rw [World.cell?_alloc_lt wr _ _ (by simp; omega), hb.cell (p := ⟨Bc, 0, none⟩) hBc2]; exact hBc
      have H := Lib.hid (HP.out _ d hcw)
      have z0 := cell_newb wr #[.int .i64 d.1, .int .i64 d.2] 30 _ 0 _ rfl rfl
      have z1 := cell_newb wr #[.int .i64 d.1, .int .i64 d.2] 30 _ 1 _ rfl rfl
      have zs : wr.heap.size < (wr.alloc (.cells #[.int .i64 d.1, .int .i64 d.2] 30)).heap.size := by simp
      have zb : Below wr.heap.size wr (wr.alloc (.cells #[.int .i64 d.1, .int .i64 d.2] 30)) := (Below.refl _ _).alloc (Nat.le_refl _) _
      clear hcw
      go_wp2_with fail
      refine H.out.mono ?_
      rintro e w3 ⟨rfl, hb3⟩
      have e0 : w3.cell? ⟨wr.heap.size, 0, none⟩ = some (.int .i64 d.1) := by rw [hb3.cell (p := ⟨wr.heap.size, 0, none⟩) zs]; exact z0
      have e1 : w3.cell? ⟨wr.heap.size, 1, none⟩ = some (.int .i64 d.2) := by rw [hb3.cell (p := ⟨wr.heap.size, 1, none⟩) zs]; exact z1
      have hbwr3 : Below wr.heap.size wr w3 := zb.trans (hb3.mono (by omega))
      have hR3 := hR.keep hbwr3
      have hbw3 : Below w.heap.size w w3 := hb.trans (hbwr3.mono hsz)
      have hs3 := hbwr3.size
      clear z0 z1 zs zb hb3 hR hbwr3 c0 c1 hBc cv
      cases hpr : pr d
      rotate_left
      · have Hpr := Lib.hid hpr; clear hpr
        have eo : lo' = lo ++ [d] := by rw [Hto.out, if_pos Hpr.out]
        have er : lr' = lr := by rw [Htr.out, if_neg (by rw [Hpr.out]; simp), List.append_nil]
        have Eo := Lib.hid eo
        have Er := Lib.hid er
        clear eo er
        go_wp2_with (at_builtin; refine wpList_append_lies _ rfl _ _ 28 rfl w.heap.size 30 i0 (.agg #[.int .i64 0, .int .i64 0]) 2 16 Try.underlying28 ki kz0 kz1 kz2 rfl (by decide) _ _ _ rfl (hR3.o.alloc _) ⟨w3.heap.size, 0, none⟩ 1 1 (dueC d) rfl rfl (fun j u hu => cell_new _ _ _ j u hu) (by simp [dueC, Value.oneCell']) (by omega) (by unfold maxLen; omega) (by omega) (by simp; omega) (w3.heap.size + 1) (by simp) ?_)
        intro gg cap2 w6 hown6 hgrow hat hlt6
        have hR6 := hR3.addO ((Below.refl _ _).alloc (Nat.le_refl _) _) hown6 hgrow hat (by omega)
        have hb6 : Below w.heap.size w w6 := (hbw3.alloc (by omega) _).grown hgrow (by simp; omega) (fun j e => ownsRow_block hR3.o j e)
        rw [← Eo.out, ← Er.out] at hR6
        clear hown6 hgrow hat hR3 e0 e1
        go_wp2_with fail
        go_roundw
        case rel => exact ⟨k + 1, by omega, by go_num, by rw [Hlo'.out, Hlr'.out]; exact hR6, hb6⟩
        case measure => simp [intOf]; omega
      · have Hpr := Lib.hid hpr; clear hpr
        have eo : lo' = lo := by rw [Hto.out, if_neg (by rw [Hpr.out]; simp), List.append_nil]
        have er : lr' = lr ++ [d] := by rw [Htr.out, if_pos (by rw [Hpr.out]; rfl)]
        have Eo := Lib.hid eo
        have Er := Lib.hid er
        clear eo er
        go_wp2_with (at_builtin; refine wpList_append_lies _ rfl _ _ 28 rfl w.heap.size 30 i0 (.agg #[.int .i64 0, .int .i64 0]) 2 16 Try.underlying28 ki kz0 kz1 kz2 rfl (by decide) _ _ _ rfl (hR3.r.alloc _) ⟨w3.heap.size, 0, none⟩ 1 1 (dueC d) rfl rfl (fun j u hu => cell_new _ _ _ j u hu) (by simp [dueC, Value.oneCell']) (by omega) (by unfold maxLen; omega) (by omega) (by simp; omega) (w3.heap.size + 1) (by simp) ?_)
        intro gg cap2 w6 hown6 hgrow hat hlt6
        have hR6 := hR3.addR ((Below.refl _ _).alloc (Nat.le_refl _) _) hown6 hgrow hat (by omega)
        have hb6 : Below w.heap.size w w6 := (hbw3.alloc (by omega) _).grown hgrow (by simp; omega) (fun j e => ownsRow_block hR3.r j e)
        rw [← Eo.out, ← Er.out] at hR6
        clear hown6 hgrow hat hR3 e0 e1
        go_wp2_with fail
        go_roundw
        case rel => exact ⟨k + 1, by omega, by go_num, by rw [Hlo'.out, Hlr'.out]; exact hR6, hb6⟩
        case measure => simp [intOf]; omega
    · obtain rfl : k = l.length := by omega
      rw [List.take_of_length_le (Nat.le_refl _)] at hR
      obtain ⟨ao, co, hfo⟩ := ownsRow_form hR.o
      obtain ⟨ar, cr, hfr⟩ := ownsRow_form hR.r
      subst hfo hfr
      have hW := h.keep (T := fun _ => False) (w' := wr) ⟨hb.os, hb.tape, hb.output, hb.size, fun k hk _ => hb.block k hk⟩ (by simp)
      have hlen : (l.filter pr).length ≤ S.n := Nat.le_trans (List.length_filter_le _ _) hn
      generalize hlo : l.filter pr = lo at *
      generalize hlr : (l.filter fun d => !pr d) = lr at *
      have Hlo := Lib.hid hlo; clear hlo
      have Hlr := Lib.hid hlr; clear hlr
      have hrp : ∀ g, (Value.slice ar lr.length cr).ownBlock = some g → w.heap.size ≤ g := fun g hg => ownsRow_block hR.r g hg
      have hW7 := (hW.but i hi).setRow hi (.slice ar lr.length cr) lr (ownsRow_base hR.r hB) (fun e => by have := hrp p e; have := h.p1; omega) (by
        intro j vj hj hji hcj g hg hg2
        obtain ⟨vs', h1', _⟩ := hW.row
        have e : vs' j = vj := by rw [(h1' j hj).1] at hcj; exact Option.some.inj hcj
        have := (h.flt g ((h1' j hj).2.2 g (by rw [e]; exact hg2)).1).1
        have := hrp g hg
        omega)
      have hf7 : Fr F w (wr.setCell ⟨p, i, none⟩ (.slice ar lr.length cr)) := (Fr.of_below (S := F) hb).setCell (p := ⟨p, i, none⟩) h.fp _
      have ho7 : (wr.setCell ⟨p, i, none⟩ (.slice ar lr.length cr)).ownsRow w.heap.size 30 2 (.slice ao lo.length co) lo.length (lo.flatMap dueC) := ownsRow_keep hR.o fun k hk => Below.heap_setCell _ _ _ _ (by have := ownsRow_block hR.o k hk; have := h.p1; simp; omega)
      have hof : ∀ k, (Value.slice ao lo.length co).ownBlock = some k → ¬ (F k ∨ (Value.slice ar lr.length cr).ownBlock = some k) := by
        intro k hk hc
        rcases hc with hc | hc
        · have := (h.flt k hc).1; have := ownsRow_block hR.o k hk; omega
        · exact hR.ne k hk hc
      have hFn : ∀ k, (F k ∨ (Value.slice ar lr.length cr).ownBlock = some k) → F k ∨ w.heap.size ≤ k := fun k hk => hk.imp id (hrp k)
      have cvr : ∃ u, wr.cell? ⟨p, i, none⟩ = some u := (hW.but i hi).here
      obtain ⟨u, cu⟩ := cvr
      have fu := hW.fz i
      have HFn := Lib.hid hFn
      have Hof := Lib.hid hof
      have HZ := Lib.hid hR.z
      clear hFn hof hrp hR hBc cv
      have hcn := hW7.n
      have hfn := hW7.fz 65
      have P := Lib.hid (hW7.setN (S.n - lo.length))
      have hsub : ((S.put i lr).n : Int) = (S.n : Int) := rfl
      rw [hsub] at hcn
      clear hsub
      have hnn : ((S.n - lo.length : Nat) : Int) = (S.n : Int) - (lo.length : Int) := by omega
      rw [hnn] at P
      clear hnn
      have ho8 : ∀ v, ((wr.setCell ⟨p, i, none⟩ (.slice ar lr.length cr)).setCell ⟨p, 65, none⟩ v).ownsRow w.heap.size 30 2 (.slice ao lo.length co) lo.length (lo.flatMap dueC) := fun v => ownsRow_keep ho7 fun k hk => Below.heap_setCell _ _ _ _ (by have := ownsRow_block ho7 k hk; have := h.p1; simp; omega)
      have hf8 : ∀ v, Fr F w ((wr.setCell ⟨p, i, none⟩ (.slice ar lr.length cr)).setCell ⟨p, 65, none⟩ v) := fun v => hf7.setCell (p := ⟨p, 65, none⟩) h.fp _
      have Ho8 := Lib.hid ho8
      have Hf8 := Lib.hid hf8
      clear ho8 hf8 ho7 hf7
      go_wp2_with fail
      go_ret
      obtain rfl := Hlo.out
      obtain rfl := Hlr.out
      exact ⟨_, _, rfl, Ho8.out _, P.out, HFn.out, Hof.out, Hf8.out _, HZ.out⟩

/-- A cut of every place below k. -/
def Whl.cutTo (S : Whl) (pr : Int × Int → Bool) (k : Nat) : Whl :=
  { S with b := fun j => if j < k then (S.b j).filter fun d => !pr d else S.b j, n := S.n - ((List.range k).map fun j => ((S.b j).filter pr).length).sum }

theorem Whl.cutTo_zero (S : Whl) (pr : Int × Int → Bool) : S.cutTo pr 0 = S := by
  cases S; simp [Whl.cutTo]

theorem Whl.cutTo_b (S : Whl) (pr : Int × Int → Bool) (k : Nat) : (S.cutTo pr k).b k = S.b k := by simp [Whl.cutTo]

theorem Whl.cutTo_succ (S : Whl) (pr : Int × Int → Bool) (k : Nat) : { ((S.cutTo pr k).put k ((S.b k).filter fun d => !pr d)) with n := (S.cutTo pr k).n - ((S.b k).filter pr).length } = S.cutTo pr (k + 1) := by
  cases S
  simp only [Whl.cutTo, Whl.put, Whl.mk.injEq, and_true, true_and]
  refine ⟨?_, ?_⟩
  · funext j
    by_cases h1 : j = k
    · subst h1; simp
    · by_cases h2 : j < k
      · simp [h1, h2, show j < k + 1 from by omega]
      · simp [h1, h2, show ¬ j < k + 1 from by omega]
  · rw [List.range_succ, List.map_append, List.sum_append]
    simp; omega

def Whl.total (S : Whl) (k : Nat) : Nat := ((List.range k).map fun j => (S.b j).length).sum

theorem total_succ (S : Whl) (k : Nat) : S.total (k + 1) = S.total k + (S.b k).length := by
  unfold Whl.total; rw [List.range_succ, List.map_append, List.sum_append]; simp

theorem cut_le (S : Whl) (pr : Int × Int → Bool) (k : Nat) : ((List.range k).map fun j => ((S.b j).filter pr).length).sum ≤ S.total k := by
  induction k with
  | zero => simp [Whl.total]
  | succ k ih =>
    rw [total_succ, List.range_succ, List.map_append, List.sum_append]
    have := List.length_filter_le pr (S.b k)
    simp; omega

theorem total_mono (S : Whl) {j k : Nat} (h : j ≤ k) : S.total j ≤ S.total k := by
  induction h with
  | refl => exact Nat.le_refl _
  | step _ ih => rw [total_succ]; omega

/-- What is asked of a wheel's numbers: the count is right, and not above 1024. -/
structure Whl.Ok (S : Whl) : Prop where
  n : S.n = S.total 64
  le : S.n ≤ 1024
  now : 0 ≤ S.now

theorem Whl.Ok.len {S : Whl} (h : S.Ok) (i : Nat) (hi : i < 64) : (S.b i).length ≤ S.n := by
  have := total_mono S (j := i + 1) (k := 64) hi
  rw [total_succ] at this
  have := h.n
  omega

set_option maxHeartbeats 1000000 in
set_option maxRecDepth 100000 in
theorem cancel_any (B p : Nat) (F : Nat → Prop) (S : Whl) (id : Int) (w : World) (h : WheelAt B w p F S) (hB : B ≤ w.heap.size) (ok : S.Ok) :
    Calls Try.prog 16 #[.pointer (some ⟨p, 0, none⟩), .int .i64 id] w fun e w' => e = .returned (.bool (decide ((S.cutTo (fun d => d.2 == id) 64).n < S.n))) ∧
      ∃ F', WheelAt B w' p F' (S.cutTo (fun d => d.2 == id) 64) ∧ (∀ k, F' k → F k ∨ w.heap.size ≤ k) ∧ Fr F w w' := by
  have hw1 : WheelAt B (w.alloc (.cells #[.int .i64 id] 3)) p F S := h.below ((Below.refl _ _).alloc (Nat.le_refl _) _)
  have c0 := cell_newb w #[.int .i64 id] 3 _ 0 _ rfl rfl
  have hf1 : Fr F w (w.alloc (.cells #[.int .i64 id] 3)) := (Fr.refl _ _).alloc _
  have hs1e : (w.alloc (.cells #[.int .i64 id] 3)).heap.size = w.heap.size + 1 := by simp
  have hs1 : w.heap.size < (w.alloc (.cells #[.int .i64 id] 3)).heap.size := by simp
  have cn := hw1.n
  have Hs1e := Lib.hid hs1e; clear hs1e
  have hFb : ¬ F w.heap.size := fun hF => by have := (h.flt _ hF).1; omega
  have eg : ∀ args w, (callFunc 31 args).run Try.prog w = .ok (.enter 31 args) w := enters_of Try.func31 (by kernel_rfl) rfl
  have CUT := Lib.hid (cut_any 31 eg id w.heap.size (fun d => d.2 == id) (fun W d hc => cancelPred_any d id w.heap.size W hc))
  have Eg := Lib.hid eg
  clear eg
  go_enter Try.func16, Try.ntmps16
  go_wp2_with fail
  generalize w.alloc (.cells #[.int .i64 id] 3) = w1 at *
  have hB1 : B ≤ w1.heap.size := by omega
  go_loopw [11] (fun i wr => ∃ (k : Nat) (F' : Nat → Prop), k ≤ 64 ∧ i = .int .i64 k ∧ WheelAt B wr p F' (S.cutTo (fun d => d.2 == id) k) ∧ Hid (∀ k, F' k → F k ∨ w.heap.size < k) ∧ Fr F w1 wr) (fun i _ => 64 - (intOf i).toNat)
  case atStart => exact ⟨0, F, Nat.zero_le _, rfl, by rw [Whl.cutTo_zero]; exact hw1, fun k hk => .inl hk, Fr.refl _ _⟩
  case round =>
    obtain ⟨k, F', hk, rfl, hW, HF, hf⟩ := hrel
    have hsz := hf.size
    by_cases hlt : k < 64
    · have cid : wr.cell? ⟨w.heap.size, 0, none⟩ = some (.int .i64 id) := by rw [hf.cell (p := ⟨w.heap.size, 0, none⟩) hs1 hFb]; exact c0
      have hle := ok.len k hlt
      have hok := ok.le
      have hn2 : (S.cutTo (fun d => d.2 == id) k).n ≤ 1024 := by simp only [Whl.cutTo]; omega
      have hn1 : (S.b k).length ≤ (S.cutTo (fun d => d.2 == id) k).n := by
        have h1 := cut_le S (fun d => d.2 == id) k
        have h2 := total_mono S (j := k + 1) (k := 64) hlt
        rw [total_succ] at h2
        have := ok.n
        simp only [Whl.cutTo]; omega
      have C := CUT.out B p F' (S.cutTo (fun d => d.2 == id) k) wr hW (by omega) k hlt cid (by rw [Whl.cutTo_b]; omega) (by rw [Whl.cutTo_b]; exact hn1) hn2
      rw [Whl.cutTo_b, Whl.cutTo_succ] at C
      have HC := Lib.hid C; clear C
      have hkI : (k : Int) < 64 := by omega
      go_wp2_with fail
      refine HC.out.mono ?_
      rintro e w3 ⟨v, F3, rfl, hown, hW3, hF3, hv3, hf3, _⟩
      have HF3 : Hid (∀ k, F3 k → F k ∨ w.heap.size < k) := fun k hk => (hF3 k hk).elim (fun hk => HF.out k hk) (fun hk => .inr (by omega))
      have hf3' : Fr F w1 w3 := hf.trans (U := F) (T := fun k => F' k) hf3 (fun _ _ h => h) (fun k hk h' => (HF.out k h').elim (fun x => x) (fun hk2 => by have := Hs1e.out; omega))
      go_wp2_with fail
      go_roundw
      case rel => exact ⟨k + 1, F3, by omega, by go_num, hW3, HF3, hf3'⟩
      case measure => simp [intOf]; omega
    · obtain rfl : k = 64 := by omega
      have cn2 := hW.n
      go_wp2_with fail
      go_ret
      exact ⟨ret_bool (by simp), F', hW, fun k hk => (HF.out k hk).imp (fun x => x) (fun h => by omega), hf1.trans hf (fun _ _ h => h) (fun _ _ h => h)⟩
end Go.Proofs.Ythmbbbdnfgefbaa
