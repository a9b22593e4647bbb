/- SLOTS: the reference's put: slots in order, one more. Printed by tools/sput.py. -/
import Derived.Test.YtaogdgbijjjpjaaSL9
import Derived.Test.YtaogdgbijjjpjaaPutK
namespace Go.Proofs.Ytaogdgbijjjpjaa
open Go.RowKit
set_option linter.unusedVariables false

def insS (d : Q) (m : List Q) : List Q := m.takeWhile (fun x => ltS x d) ++ d :: m.dropWhile fun x => ltS x d
theorem insS_perm (d : Q) (m : List Q) : (insS d m).Perm (d :: m) := by
  unfold insS
  refine (List.perm_middle).trans ?_
  rw [List.takeWhile_append_dropWhile]
theorem insS_srt {d : Q} {m : List Q} (h : SrtS m) : SrtS (insS d m) := by
  unfold SrtS insS
  have h' : SrtS (m.takeWhile (fun x => ltS x d) ++ m.dropWhile fun x => ltS x d) := by rw [List.takeWhile_append_dropWhile]; exact h
  obtain ⟨h1, h2, h3⟩ := List.pairwise_append.1 h'
  rw [List.pairwise_append]
  refine ⟨h1, ?_, ?_⟩
  · rw [List.pairwise_cons]
    refine ⟨fun y hy => ?_, h2⟩
    cases hdw : m.dropWhile fun x => ltS x d with
    | nil => rw [hdw] at hy; simp at hy
    | cons z zs =>
      have hz : ltS z d = false := by
        have := List.head?_dropWhile_not (fun x => ltS x d) m
        rw [hdw] at this
        simpa using this
      rw [hdw] at hy h2
      rcases List.mem_cons.1 hy with rfl | hy
      · exact hz
      · have hyz := (List.pairwise_cons.1 h2).1 y hy
        rw [ltS_not] at hz hyz ⊢
        omega
  · intro x hx y hy
    have hxd : ltS x d = true := by
      have := List.all_eq_true.1 (List.all_takeWhile (l := m) (p := fun x => ltS x d)) x hx
      simpa using this
    rcases List.mem_cons.1 hy with rfl | hy
    · rw [ltS_iff] at hxd; rw [ltS_not]; omega
    · exact h3 x hx y hy
theorem ins_atS (d : Q) (l : List Q) (k : Nat) (h1 : ∀ j (h : j < l.length), j < k → ltS l[j] d = true) (h2 : ∀ h : k < l.length, ltS l[k] d = false) (h3 : k ≤ l.length) : insS d l = l.take k ++ d :: l.drop k := by
  have e : l.takeWhile (fun x => ltS x d) = l.take k ∧ l.dropWhile (fun x => ltS x d) = l.drop k := by
    induction l generalizing k with
    | nil => simp
    | cons x l ih =>
      cases k with
      | zero =>
        have := h2 (by simp)
        simp only [List.getElem_cons_zero] at this
        rw [List.takeWhile_cons, List.dropWhile_cons, this]; simp
      | succ k =>
        have hx := h1 0 (by simp) (by omega)
        simp only [List.getElem_cons_zero] at hx
        obtain ⟨a, b⟩ := ih k (fun j h hj => h1 (j + 1) (by simp; omega) (by omega)) (fun h => h2 (by simp; omega)) (by simpa using h3)
        rw [List.takeWhile_cons, List.dropWhile_cons, if_pos hx, if_pos hx, a, b]; simp
  unfold insS
  rw [e.1, e.2]

theorem step_append_dueS {w : World} {ops : Array Oper} {o : Oper} {a : Act} {K : Act → World → Prop} {Q' : Exit → Act → World → Prop} {E : Prop} (hgd : o.guard = none) (s y : Operand)
    (ho : o.op = .call { callee := .builtin .append, args := #[s, y], argTypes := #[55, 55] }) (base n m : Nat) (l r : List Q) (v x : Value) (hs : a.eval s = v) (hy : a.eval y = x)
    (hown : w.ownsRow base 59 4 v n (l.flatMap qc)) (hx : Src w x m (r.flatMap qc)) (hr : r.length = m) (hbnd : n + m ≤ 4096) (hbase : base ≤ w.heap.size)
    (h : ∀ v' w', w'.ownsRow base 59 4 v' (n + m) ((l ++ r).flatMap qc) → w.grownBy w' v.ownBlock → (v'.ownBlock = v.ownBlock ∨ v'.ownBlock = some w.heap.size) → K (a.put o.dst v') w') :
    if Region.wanted o (yielded ops a.tmps) = true then Oper.wp Try.prog o a w K Q' else E := by
  obtain ⟨i0, ki, kz0, kz1, kz2⟩ := info_parts Try.info59
  refine step_append_row hgd s y 55 ho base 59 i0 _ 4 32 Try.underlying55 ki kz0 kz1 kz2 rfl (by omega) v n (l.flatMap qc) hs hown x m (r.flatMap qc) hy (by rw [flat_length, hr]) hx (qc_one r) (by unfold maxLen; omega) (by omega) hbase fun v' w' h2 h3 h4 => h v' w' ?_ h3 h4
  rw [List.flatMap_append]
  exact h2

theorem step_putS {w0 : World} {d : Q} {w : World} {ops : Array Oper} {o : Oper} {a : Act} {K : Act → World → Prop} {Q' : Exit → Act → World → Prop} {E : Prop} (hgd : o.guard = none) (s y : Operand)
    (ho : o.op = .call { callee := .builtin .append, args := #[s, y], argTypes := #[55, 55] }) (n m : Nat) (l r : List Q) (v x : Value) (hs : a.eval s = v) (hy : a.eval y = x) (hP : PutS w0 d w)
    (hown : w.ownsRow (w0.heap.size + 1) 59 4 v n (l.flatMap qc)) (hx : Src w x m (r.flatMap qc)) (hr : r.length = m) (hbnd : n + m ≤ 4096)
    (h : ∀ v' w', w'.ownsRow (w0.heap.size + 1) 59 4 v' (n + m) ((l ++ r).flatMap qc) → PutS w0 d w' → w.grownBy w' v.ownBlock → K (a.put o.dst v') w') :
    if Region.wanted o (yielded ops a.tmps) = true then Oper.wp Try.prog o a w K Q' else E :=
  step_append_dueS hgd s y ho _ n m l r v x hs hy hown hx hr hbnd (by have := hP.lt; omega) fun v' w' h2 h3 _ => h v' w' h2 (hP.grown h3 fun k e => by have := ownsRow_block hown k e; omega) h3

theorem step_belS {w0 : World} {w : World} {ops : Array Oper} {o : Oper} {a : Act} {K : Act → World → Prop} {Q' : Exit → Act → World → Prop} {E : Prop} (hgd : o.guard = none) (s y : Operand)
    (ho : o.op = .call { callee := .builtin .append, args := #[s, y], argTypes := #[55, 55] }) (n m : Nat) (l r : List Q) (v x : Value) (hs : a.eval s = v) (hy : a.eval y = x) (hP : Below w0.heap.size w0 w)
    (hown : w.ownsRow w0.heap.size 59 4 v n (l.flatMap qc)) (hx : Src w x m (r.flatMap qc)) (hr : r.length = m) (hbnd : n + m ≤ 4096)
    (h : ∀ v' w', w'.ownsRow w0.heap.size 59 4 v' (n + m) ((l ++ r).flatMap qc) → Below w0.heap.size w0 w' → w.grownBy w' v.ownBlock → K (a.put o.dst v') w') :
    if Region.wanted o (yielded ops a.tmps) = true then Oper.wp Try.prog o a w K Q' else E :=
  step_append_dueS hgd s y ho _ n m l r v x hs hy hown hx hr hbnd hP.size fun v' w' h2 h3 _ => h v' w' h2 (hP.grown h3 hP.size fun k e => ownsRow_block hown k e) h3

theorem src_newS (W : World) (d0 d1 d2 d3 : Int) (g : Nat) (hg : g = W.heap.size) : Src (W.alloc (.cells #[.int .i64 d0, .int .i64 d1, .int .i64 d2, .int .i64 d3] 59)) (.slice (some ⟨g, 0, none⟩) 1 1) 1 ([(d0, d1, d2, d3)].flatMap qc) := by
  subst hg
  exact .inr ⟨_, _, rfl, fun j u hu => cell_new _ _ _ j u hu⟩

theorem own_litS (W : World) (base g : Nat) (hg : g = W.heap.size) (hb : base ≤ W.heap.size) : (W.alloc (.cells #[] 59)).ownsRow base 59 4 (.slice (some ⟨g, 0, none⟩) 0 0) 0 (([] : List Q).flatMap qc) := by
  subst hg
  exact World.ownsRow_lit (size := 4) (e := 59) W #[] 0 hb (Nat.zero_le _) rfl

theorem own_lit2S (W : World) (o : Obj) (base g : Nat) (hg : g = W.heap.size + 1) (hb : base ≤ W.heap.size) : ((W.alloc o).alloc (.cells #[] 59)).ownsRow base 59 4 (.slice (some ⟨g, 0, none⟩) 0 0) 0 (([] : List Q).flatMap qc) :=
  own_litS (W.alloc o) base g (by simp [hg]) (by simp; omega)

set_option maxHeartbeats 8000000 in
set_option maxRecDepth 100000 in
theorem putS_any (a : Option Addr) (n c : Nat) (l : List Q) (d0 d1 d2 d3 : Int) (w : World) (hm : QsIn w.heap.size w a n l) (hc : Has a n c) (hn : n ≤ 1024) :
    Calls Try.prog 35 #[.slice a n c, .agg #[.int .i64 d0, .int .i64 d1, .int .i64 d2, .int .i64 d3]] w fun e w' => ∃ v, e = .returned v ∧ w'.ownsRow w.heap.size 59 4 v (n + 1) ((insS (d0, d1, d2, d3) l).flatMap qc) ∧ Below w.heap.size w w' := by
  have hll := hm.1
  go_enter Try.func35, Try.ntmps35
  go_wp2_with fail
  generalize hw1 : w.alloc (.cells #[.int .i64 d0, .int .i64 d1, .int .i64 d2, .int .i64 d3] 59) = w1
  have e0 : C4 w1 w.heap.size d0 d1 d2 d3 := by rw [← hw1]; exact C4.new _ _ _ _ _ _ _ rfl
  have hb1 : Below w.heap.size w w1 := by rw [← hw1]; exact (Below.refl _ _).alloc (Nat.le_refl _) _
  have hs1 : w.heap.size < w1.heap.size := by rw [← hw1]; simp
  clear hw1
  have HE := Lib.hid hm
  go_wp2_with fail
  go_loopw [5] (fun i wr => ∃ k : Nat, k ≤ n ∧ i = .int .i64 k ∧ (wr.cell? ⟨w.heap.size, 0, none⟩ = some (.int .i64 d0) ∧ wr.cell? ⟨w.heap.size, 1, none⟩ = some (.int .i64 d1) ∧ wr.cell? ⟨w.heap.size, 2, none⟩ = some (.int .i64 d2) ∧ wr.cell? ⟨w.heap.size, 3, none⟩ = some (.int .i64 d3) ∧ Below w.heap.size w wr ∧ w.heap.size < wr.heap.size) ∧ Hid (∀ j (h : j < l.length), j < k → ltS l[j] (d0, d1, d2, d3) = true)) (fun i _ => n - (intOf i).toNat)
  case atStart => exact ⟨0, Nat.zero_le _, rfl, ⟨e0.c0, e0.c1, e0.c2, e0.c3, hb1, hs1⟩, fun j h hj => by omega⟩
  case round =>
    clear e0 hb1 hs1
    obtain ⟨k, hk, rfl, ⟨g0, g1, g2, g3, hbq, hsq⟩, HL⟩ := hrel
    have HB : Hid (∀ W : World, Below wr.heap.size wr W → (W.cell? ⟨w.heap.size, 0, none⟩ = some (.int .i64 d0) ∧ W.cell? ⟨w.heap.size, 1, none⟩ = some (.int .i64 d1) ∧ W.cell? ⟨w.heap.size, 2, none⟩ = some (.int .i64 d2) ∧ W.cell? ⟨w.heap.size, 3, none⟩ = some (.int .i64 d3) ∧ Below w.heap.size w W ∧ w.heap.size < W.heap.size)) := by
      intro W hb
      have q := (⟨g0, g1, g2, g3⟩ : C4 wr w.heap.size d0 d1 d2 d3).below hb
      exact ⟨q.c0, q.c1, q.c2, q.c3, hbq.trans (hb.mono hbq.size), Nat.lt_of_lt_of_le hsq hb.size⟩
    have hbr : Below wr.heap.size wr wr := Below.refl _ _
    go_upto_region 2 with fail
    go_cut [39] (fun s wx => ∃ bb : Bool, s = .bool bb ∧ Hid (bb = true ↔ ∃ h : k < l.length, ltS l[k] (d0, d1, d2, d3) = true) ∧ (wx.cell? ⟨w.heap.size, 0, none⟩ = some (.int .i64 d0) ∧ wx.cell? ⟨w.heap.size, 1, none⟩ = some (.int .i64 d1) ∧ wx.cell? ⟨w.heap.size, 2, none⟩ = some (.int .i64 d2) ∧ wx.cell? ⟨w.heap.size, 3, none⟩ = some (.int .i64 d3) ∧ Below w.heap.size w wx ∧ w.heap.size < wx.heap.size))
    case first =>
      by_cases hkn : k < n
      · obtain ⟨b, off, rfl, hbB, hcc⟩ := (HE.out.keep hbq).2 (by omega)
        obtain ⟨c0, c1, c2, c3⟩ := hcc k (by omega)
        have HT : Hid ((l[k].2.2.1 < d2 ∨ l[k].2.2.1 = d2 ∧ l[k].1 < d0) → (∃ h : k < l.length, ltS l[k] (d0, d1, d2, d3) = true)) := fun h => ⟨by omega, (ltS_iff _ _).2 h⟩
        have HF : Hid (¬ (l[k].2.2.1 < d2 ∨ l[k].2.2.1 = d2 ∧ l[k].1 < d0) → (false = true ↔ ∃ h : k < l.length, ltS l[k] (d0, d1, d2, d3) = true)) := fun h => ⟨fun h => (by cases h), fun ⟨_, h'⟩ => absurd ((ltS_iff _ _).1 h') h⟩
        clear hcc hm c1 c3
        generalize l[k].1 = y0 at HT HF c0
        generalize l[k].2.2.1 = y2 at HT HF c2
        have hknI : (k : Int) < (n : Int) := by omega
        by_cases h1 : y2 < d2
        · have HR := Lib.hid (HT.out (.inl h1))
          clear HT HF
          go_wp2_with fail
          go_quiet (fail)
          go_wp2_with fail
          go_meet
          case rel => exact ⟨true, rfl, ⟨fun _ => HR.out, fun _ => rfl⟩, HB.out _ (bel_drewN hbr _)⟩
        · have e1 : decide (y2 < d2) = false := decide_eq_false h1
          by_cases h2 : y2 = d2
          · subst h2
            by_cases h3 : y0 < d0
            · have HR := Lib.hid (HT.out (.inr ⟨rfl, h3⟩))
              clear HT HF
              go_wp2_with fail
              go_quiet (fail)
              go_wp2_with fail
              go_meet
              case rel => exact ⟨true, rfl, ⟨fun _ => HR.out, fun _ => rfl⟩, HB.out _ (bel_drewN hbr _)⟩
            · have e2 : decide (y0 < d0) = false := decide_eq_false h3
              have HR := Lib.hid (HF.out (by omega))
              clear HT HF
              go_wp2_with fail
              go_quiet (fail)
              go_wp2_with fail
              go_meet
              case rel => exact ⟨false, rfl, HR, HB.out _ (bel_drewN hbr _)⟩
          · have e2 : (y2 == d2) = false := by simpa using h2
            have HR := Lib.hid (HF.out (by omega))
            clear HT HF
            go_wp2_with fail
            go_quiet (fail)
            go_wp2_with fail
            go_meet
            case rel => exact ⟨false, rfl, HR, HB.out _ (bel_drewN hbr _)⟩
      · obtain rfl : k = n := by omega
        have HR : Hid (false = true ↔ ∃ h : k < l.length, ltS l[k] (d0, d1, d2, d3) = true) := ⟨fun h => (by cases h), fun ⟨h, _⟩ => by omega⟩
        clear g0 g1 g2 g3
        go_wp2_with fail
        go_quiet (fail)
        go_wp2_with fail
        go_meet
        case rel => exact ⟨false, rfl, HR, HB.out _ (bel_drewN hbr _)⟩
    case rest =>
      obtain ⟨bb, rfl, Hbb, ⟨g0, g1, g2, g3, hbq, hsq⟩⟩ := hcut
      cases bb
      rotate_left
      · obtain ⟨hkl, hlt⟩ := Hbb.out.1 rfl
        have HS : Hid (∀ j (h : j < l.length), j < k + 1 → ltS l[j] (d0, d1, d2, d3) = true) := by
          intro j h hj
          rcases Nat.lt_or_ge j k with hjk | hjk
          · exact HL.out j h hjk
          · obtain rfl : j = k := by omega
            exact hlt
        clear hlt HL Hbb
        go_wp2_with fail
        go_roundw
        case rel => exact ⟨k + 1, by omega, by go_num, ⟨g0, g1, g2, g3, hbq, hsq⟩, HS⟩
        case measure => simp [intOf]; omega
      · have hins : insS (d0, d1, d2, d3) l = l.take k ++ (d0, d1, d2, d3) :: l.drop k := ins_atS _ l k HL.out (fun h => by
          cases hc : ltS l[k] (d0, d1, d2, d3)
          · rfl
          · have := Hbb.out.2 ⟨h, hc⟩; simp at this) (by omega)
        have Hins := Lib.hid hins
        clear hins HL Hbb
        rcases hc with ⟨rfl, rfl, rfl⟩ | ⟨b, off, rfl, hnc, hc2⟩
        · obtain rfl : l = [] := List.eq_nil_of_length_eq_zero hll
          obtain rfl : k = 0 := by omega
          obtain ⟨L1, hL1⟩ : ∃ L, L = ([] : List Q) := ⟨_, rfl⟩
          obtain ⟨L3, hL3⟩ : ∃ L, L = ([] : List Q) := ⟨_, rfl⟩
          have hP : PutS w (d0, d1, d2, d3) _ := ⟨⟨g0, g1, g2, g3⟩, hbq, hsq⟩
          have HS1 : Hid (∀ W, PutS w (d0, d1, d2, d3) W → Src W (.slice none 0 0) 0 (L1.flatMap qc)) := fun W _ => .inl ⟨rfl, rfl⟩
          have HS3 : Hid (∀ W, PutS w (d0, d1, d2, d3) W → Src W (.slice none 0 0) 0 (L3.flatMap qc)) := fun W _ => .inl ⟨rfl, rfl⟩
          have Htk : Hid (L1.length = 0) := by show _ = _; rw [hL1]; rfl
          have Hdk : Hid (L3.length = 0) := by show _ = _; rw [hL3]; rfl
          have HL : Hid ([] ++ L1 ++ [(d0, d1, d2, d3)] ++ L3 = insS (d0, d1, d2, d3) []) := by show _ = _; rw [hL1, hL3, Hins.out]; rfl
          have hbk : 0 + 0 ≤ 4096 := by omega
          have hbk1 : 0 + 0 + 1 ≤ 4096 := by omega
          have hbk2 : 0 + 0 + 1 + 0 ≤ 4096 := by omega
          have hltc : w.heap.size < wc.heap.size := hsq
          clear g0 g1 g2 g3 hbq hsq hL1 hL3 Hins hm
          go_wp2_with fail
          go_region_held3 (fun w' => w'.cell? ⟨w.heap.size, 0, none⟩ = some (.int .i64 d0) ∧ w'.cell? ⟨w.heap.size, 1, none⟩ = some (.int .i64 d1) ∧ w'.cell? ⟨w.heap.size, 2, none⟩ = some (.int .i64 d2) ∧ w'.cell? ⟨w.heap.size, 3, none⟩ = some (.int .i64 d3) ∧ PutS w (d0, d1, d2, d3) w') ((refine PutS.three ?_; (focus repeat (first | (with_reducible assumption) | (with_reducible refine PutS.alloc ?_ _) | (with_reducible refine PutS.drew ?_)))))
            (first | ((refine step_putS (w0 := w) (d := (d0, d1, d2, d3)) ?_ (.tmp 42) (.tmp 45) ?_ 0 0 [] L1 (Value.slice (some ⟨wc.heap.size, 0, none⟩) 0 0) (Value.slice none 0 0) ?_ ?_ ?_ ?_ ?_ Htk.out hbk ?_; rfl; rfl; rfl; rfl; (focus repeat (first | (with_reducible assumption) | (with_reducible refine PutS.alloc ?_ _) | (with_reducible refine PutS.drew ?_))); (focus repeat (first | (with_reducible assumption) | ((with_reducible refine own_lit2S _ _ _ _ ?_ ?_); rfl; assumption) | ((with_reducible refine own_litS _ _ _ ?_ ?_); (first | rfl | (simp; done)); (first | omega | (simp; omega))) | (with_reducible refine World.ownsRow.drew ?_) | (with_reducible refine World.ownsRow.alloc ?_ _))); (refine HS1.out _ ?_; (focus repeat (first | (with_reducible assumption) | (with_reducible refine PutS.alloc ?_ _) | (with_reducible refine PutS.drew ?_)))); intro v1 w1 hown1 hP1 hgrow1)) | ((refine step_putS (w0 := w) (d := (d0, d1, d2, d3)) ?_ (.tmp 42) (.tmp 45) ?_ 0 0 [] L1 (Value.slice (some ⟨wc.heap.size + 1, 0, none⟩) 0 0) (Value.slice none 0 0) ?_ ?_ ?_ ?_ ?_ Htk.out hbk ?_; rfl; rfl; rfl; rfl; (focus repeat (first | (with_reducible assumption) | (with_reducible refine PutS.alloc ?_ _) | (with_reducible refine PutS.drew ?_))); (focus repeat (first | (with_reducible assumption) | ((with_reducible refine own_lit2S _ _ _ _ ?_ ?_); rfl; assumption) | ((with_reducible refine own_litS _ _ _ ?_ ?_); (first | rfl | (simp; done)); (first | omega | (simp; omega))) | (with_reducible refine World.ownsRow.drew ?_) | (with_reducible refine World.ownsRow.alloc ?_ _))); (refine HS1.out _ ?_; (focus repeat (first | (with_reducible assumption) | (with_reducible refine PutS.alloc ?_ _) | (with_reducible refine PutS.drew ?_)))); intro v1 w1 hown1 hP1 hgrow1)) | ((refine step_putS (w0 := w) (d := (d0, d1, d2, d3)) ?_ (.tmp 46) (.tmp 48) ?_ (0 + 0) 1 ([] ++ L1) [(d0, d1, d2, d3)] v1 (Value.slice (some ⟨w1.heap.size, 0, none⟩) 1 1) ?_ ?_ ?_ ?_ ?_ rfl hbk1 ?_; rfl; rfl; rfl; rfl; (focus repeat (first | (with_reducible assumption) | (with_reducible refine PutS.alloc ?_ _) | (with_reducible refine PutS.drew ?_))); (focus repeat (first | (with_reducible assumption) | ((with_reducible refine own_lit2S _ _ _ _ ?_ ?_); rfl; assumption) | ((with_reducible refine own_litS _ _ _ ?_ ?_); (first | rfl | (simp; done)); (first | omega | (simp; omega))) | (with_reducible refine World.ownsRow.drew ?_) | (with_reducible refine World.ownsRow.alloc ?_ _))); (focus repeat (first | ((with_reducible refine src_newS _ d0 d1 d2 d3 _ ?_); (first | rfl | (simp; done))) | (with_reducible refine src_drew ?_) | ((with_reducible refine src_alloc ?_ ?_ _); rotate_left; (focus (first | (simp; done) | (simp; omega))); rotate_left) | ((with_reducible refine src_far ?_ hgrow1 ?_ ?_); rotate_left; (focus (first | (simp; done) | (simp; omega))); (focus (simp [Value.ownBlock])); rotate_left))); intro v2 w2 hown2 hP2 hgrow2)) | ((refine step_putS (w0 := w) (d := (d0, d1, d2, d3)) ?_ (.tmp 46) (.tmp 48) ?_ (0 + 0) 1 ([] ++ L1) [(d0, d1, d2, d3)] v1 (Value.slice (some ⟨wc.heap.size, 0, none⟩) 1 1) ?_ ?_ ?_ ?_ ?_ rfl hbk1 ?_; rfl; rfl; rfl; rfl; (focus repeat (first | (with_reducible assumption) | (with_reducible refine PutS.alloc ?_ _) | (with_reducible refine PutS.drew ?_))); (focus repeat (first | (with_reducible assumption) | ((with_reducible refine own_lit2S _ _ _ _ ?_ ?_); rfl; assumption) | ((with_reducible refine own_litS _ _ _ ?_ ?_); (first | rfl | (simp; done)); (first | omega | (simp; omega))) | (with_reducible refine World.ownsRow.drew ?_) | (with_reducible refine World.ownsRow.alloc ?_ _))); (focus repeat (first | ((with_reducible refine src_newS _ d0 d1 d2 d3 _ ?_); (first | rfl | (simp; done))) | (with_reducible refine src_drew ?_) | ((with_reducible refine src_alloc ?_ ?_ _); rotate_left; (focus (first | (simp; done) | (simp; omega))); rotate_left) | ((with_reducible refine src_far ?_ hgrow1 ?_ ?_); rotate_left; (focus (first | (simp; done) | (simp; omega))); (focus (simp [Value.ownBlock])); rotate_left))); intro v2 w2 hown2 hP2 hgrow2)) | ((refine step_putS (w0 := w) (d := (d0, d1, d2, d3)) ?_ (.tmp 46) (.tmp 48) ?_ (0 + 0) 1 ([] ++ L1) [(d0, d1, d2, d3)] v1 (Value.slice (some ⟨wc.heap.size + 1, 0, none⟩) 1 1) ?_ ?_ ?_ ?_ ?_ rfl hbk1 ?_; rfl; rfl; rfl; rfl; (focus repeat (first | (with_reducible assumption) | (with_reducible refine PutS.alloc ?_ _) | (with_reducible refine PutS.drew ?_))); (focus repeat (first | (with_reducible assumption) | ((with_reducible refine own_lit2S _ _ _ _ ?_ ?_); rfl; assumption) | ((with_reducible refine own_litS _ _ _ ?_ ?_); (first | rfl | (simp; done)); (first | omega | (simp; omega))) | (with_reducible refine World.ownsRow.drew ?_) | (with_reducible refine World.ownsRow.alloc ?_ _))); (focus repeat (first | ((with_reducible refine src_newS _ d0 d1 d2 d3 _ ?_); (first | rfl | (simp; done))) | (with_reducible refine src_drew ?_) | ((with_reducible refine src_alloc ?_ ?_ _); rotate_left; (focus (first | (simp; done) | (simp; omega))); rotate_left) | ((with_reducible refine src_far ?_ hgrow1 ?_ ?_); rotate_left; (focus (first | (simp; done) | (simp; omega))); (focus (simp [Value.ownBlock])); rotate_left))); intro v2 w2 hown2 hP2 hgrow2)) | ((refine step_putS (w0 := w) (d := (d0, d1, d2, d3)) ?_ (.tmp 49) (.tmp 52) ?_ (0 + 0 + 1) 0 ([] ++ L1 ++ [(d0, d1, d2, d3)]) L3 v2 (Value.slice none 0 0) ?_ ?_ ?_ ?_ ?_ Hdk.out hbk2 ?_; rfl; rfl; rfl; rfl; (focus repeat (first | (with_reducible assumption) | (with_reducible refine PutS.alloc ?_ _) | (with_reducible refine PutS.drew ?_))); (focus repeat (first | (with_reducible assumption) | ((with_reducible refine own_lit2S _ _ _ _ ?_ ?_); rfl; assumption) | ((with_reducible refine own_litS _ _ _ ?_ ?_); (first | rfl | (simp; done)); (first | omega | (simp; omega))) | (with_reducible refine World.ownsRow.drew ?_) | (with_reducible refine World.ownsRow.alloc ?_ _))); (refine HS3.out _ ?_; (focus repeat (first | (with_reducible assumption) | (with_reducible refine PutS.alloc ?_ _) | (with_reducible refine PutS.drew ?_)))); intro v3 w3 hown3 hP3 hgrow3)))
          all_goals go_wp2_with fail
          all_goals
            go_ret
            refine ⟨v3, rfl, ?_, hP3.bel⟩
            rw [HL.out] at hown3
            exact ownsRow_base (by simpa using hown3) (by omega)
        · have hkc : (k : Int) ≤ (c : Int) := by omega
          have hk0 : (0 : Int) ≤ (k : Int) := by omega
          have hkn : (k : Int) ≤ (n : Int) := by omega
          have hncI : (n : Int) ≤ (c : Int) := by omega
          obtain ⟨L1, hL1⟩ : ∃ L, L = l.take k := ⟨_, rfl⟩
          obtain ⟨L3, hL3⟩ : ∃ L, L = l.drop k := ⟨_, rfl⟩
          have hP : PutS w (d0, d1, d2, d3) _ := ⟨⟨g0, g1, g2, g3⟩, hbq, hsq⟩
          have HS1 : Hid (∀ W, PutS w (d0, d1, d2, d3) W → Src W (.slice (some ⟨b, off, none⟩) k c) k (L1.flatMap qc)) := fun W hW => by rw [hL1]; exact src_take HE.out hW.bel hk
          have HS3 : Hid (∀ W, PutS w (d0, d1, d2, d3) W → Src W (.slice (if c = k then some ⟨b, off, none⟩ else some ⟨b, off + k * 4, none⟩) (n - k) (c - k)) (n - k) (L3.flatMap qc)) := fun W hW => by rw [hL3]; exact src_drop HE.out hW.bel hk hnc
          have Htk : Hid (L1.length = k) := by show _ = _; rw [hL1, List.length_take]; omega
          have Hdk : Hid (L3.length = n - k) := by show _ = _; rw [hL3, List.length_drop]; omega
          have HL : Hid ([] ++ L1 ++ [(d0, d1, d2, d3)] ++ L3 = insS (d0, d1, d2, d3) l) := by show _ = _; rw [hL1, hL3, Hins.out]; simp
          have hbk : 0 + k ≤ 4096 := by omega
          have hbk1 : 0 + k + 1 ≤ 4096 := by omega
          have hbk2 : 0 + k + 1 + (n - k) ≤ 4096 := by omega
          have hltc : w.heap.size < wc.heap.size := hsq
          clear g0 g1 g2 g3 hbq hsq hL1 hL3 Hins hm
          go_wp2_with fail
          go_region_held3 (fun w' => w'.cell? ⟨w.heap.size, 0, none⟩ = some (.int .i64 d0) ∧ w'.cell? ⟨w.heap.size, 1, none⟩ = some (.int .i64 d1) ∧ w'.cell? ⟨w.heap.size, 2, none⟩ = some (.int .i64 d2) ∧ w'.cell? ⟨w.heap.size, 3, none⟩ = some (.int .i64 d3) ∧ PutS w (d0, d1, d2, d3) w') ((refine PutS.three ?_; (focus repeat (first | (with_reducible assumption) | (with_reducible refine PutS.alloc ?_ _) | (with_reducible refine PutS.drew ?_)))))
            (first | ((refine step_putS (w0 := w) (d := (d0, d1, d2, d3)) ?_ (.tmp 42) (.tmp 45) ?_ 0 k [] L1 (Value.slice (some ⟨wc.heap.size, 0, none⟩) 0 0) (Value.slice (some ⟨b, off, none⟩) k c) ?_ ?_ ?_ ?_ ?_ Htk.out hbk ?_; rfl; rfl; rfl; rfl; (focus repeat (first | (with_reducible assumption) | (with_reducible refine PutS.alloc ?_ _) | (with_reducible refine PutS.drew ?_))); (focus repeat (first | (with_reducible assumption) | ((with_reducible refine own_lit2S _ _ _ _ ?_ ?_); rfl; assumption) | ((with_reducible refine own_litS _ _ _ ?_ ?_); (first | rfl | (simp; done)); (first | omega | (simp; omega))) | (with_reducible refine World.ownsRow.drew ?_) | (with_reducible refine World.ownsRow.alloc ?_ _))); (refine HS1.out _ ?_; (focus repeat (first | (with_reducible assumption) | (with_reducible refine PutS.alloc ?_ _) | (with_reducible refine PutS.drew ?_)))); intro v1 w1 hown1 hP1 hgrow1)) | ((refine step_putS (w0 := w) (d := (d0, d1, d2, d3)) ?_ (.tmp 42) (.tmp 45) ?_ 0 k [] L1 (Value.slice (some ⟨wc.heap.size + 1, 0, none⟩) 0 0) (Value.slice (some ⟨b, off, none⟩) k c) ?_ ?_ ?_ ?_ ?_ Htk.out hbk ?_; rfl; rfl; rfl; rfl; (focus repeat (first | (with_reducible assumption) | (with_reducible refine PutS.alloc ?_ _) | (with_reducible refine PutS.drew ?_))); (focus repeat (first | (with_reducible assumption) | ((with_reducible refine own_lit2S _ _ _ _ ?_ ?_); rfl; assumption) | ((with_reducible refine own_litS _ _ _ ?_ ?_); (first | rfl | (simp; done)); (first | omega | (simp; omega))) | (with_reducible refine World.ownsRow.drew ?_) | (with_reducible refine World.ownsRow.alloc ?_ _))); (refine HS1.out _ ?_; (focus repeat (first | (with_reducible assumption) | (with_reducible refine PutS.alloc ?_ _) | (with_reducible refine PutS.drew ?_)))); intro v1 w1 hown1 hP1 hgrow1)) | ((refine step_putS (w0 := w) (d := (d0, d1, d2, d3)) ?_ (.tmp 46) (.tmp 48) ?_ (0 + k) 1 ([] ++ L1) [(d0, d1, d2, d3)] v1 (Value.slice (some ⟨w1.heap.size, 0, none⟩) 1 1) ?_ ?_ ?_ ?_ ?_ rfl hbk1 ?_; rfl; rfl; rfl; rfl; (focus repeat (first | (with_reducible assumption) | (with_reducible refine PutS.alloc ?_ _) | (with_reducible refine PutS.drew ?_))); (focus repeat (first | (with_reducible assumption) | ((with_reducible refine own_lit2S _ _ _ _ ?_ ?_); rfl; assumption) | ((with_reducible refine own_litS _ _ _ ?_ ?_); (first | rfl | (simp; done)); (first | omega | (simp; omega))) | (with_reducible refine World.ownsRow.drew ?_) | (with_reducible refine World.ownsRow.alloc ?_ _))); (focus repeat (first | ((with_reducible refine src_newS _ d0 d1 d2 d3 _ ?_); (first | rfl | (simp; done))) | (with_reducible refine src_drew ?_) | ((with_reducible refine src_alloc ?_ ?_ _); rotate_left; (focus (first | (simp; done) | (simp; omega))); rotate_left) | ((with_reducible refine src_far ?_ hgrow1 ?_ ?_); rotate_left; (focus (first | (simp; done) | (simp; omega))); (focus (simp [Value.ownBlock])); rotate_left))); intro v2 w2 hown2 hP2 hgrow2)) | ((refine step_putS (w0 := w) (d := (d0, d1, d2, d3)) ?_ (.tmp 46) (.tmp 48) ?_ (0 + k) 1 ([] ++ L1) [(d0, d1, d2, d3)] v1 (Value.slice (some ⟨wc.heap.size, 0, none⟩) 1 1) ?_ ?_ ?_ ?_ ?_ rfl hbk1 ?_; rfl; rfl; rfl; rfl; (focus repeat (first | (with_reducible assumption) | (with_reducible refine PutS.alloc ?_ _) | (with_reducible refine PutS.drew ?_))); (focus repeat (first | (with_reducible assumption) | ((with_reducible refine own_lit2S _ _ _ _ ?_ ?_); rfl; assumption) | ((with_reducible refine own_litS _ _ _ ?_ ?_); (first | rfl | (simp; done)); (first | omega | (simp; omega))) | (with_reducible refine World.ownsRow.drew ?_) | (with_reducible refine World.ownsRow.alloc ?_ _))); (focus repeat (first | ((with_reducible refine src_newS _ d0 d1 d2 d3 _ ?_); (first | rfl | (simp; done))) | (with_reducible refine src_drew ?_) | ((with_reducible refine src_alloc ?_ ?_ _); rotate_left; (focus (first | (simp; done) | (simp; omega))); rotate_left) | ((with_reducible refine src_far ?_ hgrow1 ?_ ?_); rotate_left; (focus (first | (simp; done) | (simp; omega))); (focus (simp [Value.ownBlock])); rotate_left))); intro v2 w2 hown2 hP2 hgrow2)) | ((refine step_putS (w0 := w) (d := (d0, d1, d2, d3)) ?_ (.tmp 46) (.tmp 48) ?_ (0 + k) 1 ([] ++ L1) [(d0, d1, d2, d3)] v1 (Value.slice (some ⟨wc.heap.size + 1, 0, none⟩) 1 1) ?_ ?_ ?_ ?_ ?_ rfl hbk1 ?_; rfl; rfl; rfl; rfl; (focus repeat (first | (with_reducible assumption) | (with_reducible refine PutS.alloc ?_ _) | (with_reducible refine PutS.drew ?_))); (focus repeat (first | (with_reducible assumption) | ((with_reducible refine own_lit2S _ _ _ _ ?_ ?_); rfl; assumption) | ((with_reducible refine own_litS _ _ _ ?_ ?_); (first | rfl | (simp; done)); (first | omega | (simp; omega))) | (with_reducible refine World.ownsRow.drew ?_) | (with_reducible refine World.ownsRow.alloc ?_ _))); (focus repeat (first | ((with_reducible refine src_newS _ d0 d1 d2 d3 _ ?_); (first | rfl | (simp; done))) | (with_reducible refine src_drew ?_) | ((with_reducible refine src_alloc ?_ ?_ _); rotate_left; (focus (first | (simp; done) | (simp; omega))); rotate_left) | ((with_reducible refine src_far ?_ hgrow1 ?_ ?_); rotate_left; (focus (first | (simp; done) | (simp; omega))); (focus (simp [Value.ownBlock])); rotate_left))); intro v2 w2 hown2 hP2 hgrow2)) | ((refine step_putS (w0 := w) (d := (d0, d1, d2, d3)) ?_ (.tmp 49) (.tmp 52) ?_ (0 + k + 1) (n - k) ([] ++ L1 ++ [(d0, d1, d2, d3)]) L3 v2 (Value.slice (if c = k then some ⟨b, off, none⟩ else some ⟨b, off + k * 4, none⟩) (n - k) (c - k)) ?_ ?_ ?_ ?_ ?_ Hdk.out hbk2 ?_; rfl; rfl; rfl; rfl; (focus repeat (first | (with_reducible assumption) | (with_reducible refine PutS.alloc ?_ _) | (with_reducible refine PutS.drew ?_))); (focus repeat (first | (with_reducible assumption) | ((with_reducible refine own_lit2S _ _ _ _ ?_ ?_); rfl; assumption) | ((with_reducible refine own_litS _ _ _ ?_ ?_); (first | rfl | (simp; done)); (first | omega | (simp; omega))) | (with_reducible refine World.ownsRow.drew ?_) | (with_reducible refine World.ownsRow.alloc ?_ _))); (refine HS3.out _ ?_; (focus repeat (first | (with_reducible assumption) | (with_reducible refine PutS.alloc ?_ _) | (with_reducible refine PutS.drew ?_)))); intro v3 w3 hown3 hP3 hgrow3)))
          all_goals go_wp2_with fail
          all_goals
            go_ret
            refine ⟨v3, rfl, ?_, hP3.bel⟩
            rw [HL.out, show 0 + k + 1 + (n - k) = n + 1 by omega] at hown3
            exact ownsRow_base hown3 (by omega)
end Go.Proofs.Ytaogdgbijjjpjaa
