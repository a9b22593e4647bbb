/- A part of the walk: HeapR HM Sched4 Sched5 Sched6 Xa. -/
import Derived.Test.YtnoahekcemfmcaaGreatDoorQ18
import Derived.Test.YtnoahekcemfmcaaGreatDoorQ03
import Derived.Test.YtnoahekcemfmcaaGreatDoorQ08
import Derived.Test.YtnoahekcemfmcaaGreatDoorQ14
import Derived.Test.YtnoahekcemfmcaaGreatDoorQ16
namespace Go.Proofs.YtnoahekcemfmcaaGreatDoor
set_option linter.unusedVariables false
set_option linter.unusedSimpArgs false
section
open Go.RowKit
def SrtK (l : List Q) : Prop := l.Pairwise fun x y => ltK x y = true
theorem srtK_filter {m : List Q} (h : SrtK m) (p : Q → Bool) : SrtK (m.filter p) := List.Pairwise.filter p h
def insK (d : Q) (m : List Q) : List Q := m.takeWhile (fun x => ltK x d) ++ d :: m.dropWhile fun x => ltK x d
theorem insK_perm (d : Q) (m : List Q) : (insK d m).Perm (d :: m) := by
 unfold insK
 refine (List.perm_middle).trans ?_
 rw [List.takeWhile_append_dropWhile]
theorem insK_srt {d : Q} {m : List Q} (h : SrtK m) (hd : d ∉ m) : SrtK (insK d m) := by
 unfold SrtK insK
 have h' : SrtK (m.takeWhile (fun x => ltK x d) ++ m.dropWhile fun x => ltK x d) := by rw [List.takeWhile_append_dropWhile]; exact h
 obtain ⟨h1, h2, h3⟩ := List.pairwise_append.1 h'
 rw [List.pairwise_append]
 refine ⟨h1, ?_, ?_⟩
 ·rw [List.pairwise_cons]
  refine ⟨fun y hy => ?_, h2⟩
  cases hdw : m.dropWhile fun x => ltK x d with
  | nil => rw [hdw] at hy; simp at hy
  | cons z zs =>
   have hz : ltK z d = false := by
    have := List.head?_dropWhile_not (fun x => ltK x d) m
    rw [hdw] at this
    simpa using this
   have hzd : ltK d z = true := by
    cases hc : ltK d z
    ·have := totK.tri _ _ hz hc
     exact absurd ((List.dropWhile_sublist (fun x => ltK x d)).subset (by rw [hdw, this]; exact List.mem_cons_self)) hd
    ·rfl
   rw [hdw] at hy h2
   rcases List.mem_cons.1 hy with rfl | hy
   ·exact hzd
   ·exact totK.tr _ _ _ hzd ((List.pairwise_cons.1 h2).1 y hy)
 ·intro x hx y hy
  have hxd : ltK x d = true := by
   have := List.all_eq_true.1 (List.all_takeWhile (l := m) (p := fun x => ltK x d)) x hx
   simpa using this
  rcases List.mem_cons.1 hy with rfl | hy
  ·exact hxd
  ·exact h3 x hx y hy
structure HRep (l m : List Q) : Prop where
 hp : IsHp ltK l
 perm : l.Perm m
 srt : SrtK m
 ids : (m.map (·.2.2.2)).Nodup
theorem HRep.len {l m : List Q} (h : HRep l m) : l.length = m.length := h.perm.length_eq
theorem HRep.nil : HRep [] [] := ⟨fun k h0 h1 => by simp at h1, List.Perm.refl _, List.Pairwise.nil, List.nodup_nil⟩
theorem HRep.idx {l m : List Q} (h : HRep l m) {id r : Int} (hr : Idx (fun x => x.2.2.2 == id) l r) : decide (0 ≤ r) = m.any fun x => x.2.2.2 == id := by
 rw [hr.any]; exact h.perm.any_eq
theorem HRep.nod {l m : List Q} (h : HRep l m) : (l.map (·.2.2.2)).Nodup := ((h.perm.map (·.2.2.2)).nodup_iff).2 h.ids
def peekM (m : List Q) : Q × Bool := match m with | [] => ((0, 0, 0, 0), false) | x :: _ => (x, true)
theorem HRep.head {x : Q} {l m : List Q} (h : HRep (x :: l) m) : ∃ m', m = x :: m' := by
 have hx : x ∈ m := h.perm.mem_iff.1 List.mem_cons_self
 cases m with
 | nil => simp at hx
 | cons y m' =>
  refine ⟨m', ?_⟩
  have hy : y ∈ x :: l := h.perm.mem_iff.2 List.mem_cons_self
  obtain ⟨k, hk, e⟩ := List.mem_iff_getElem.1 hy
  have h1 := root_least totK (x :: l) h.hp k hk
  rw [at_eq _ _ hk, e] at h1
  have h0 : at' (x :: l) 0 = x := rfl
  rw [h0] at h1
  rcases List.mem_cons.1 hx with rfl | hx
  ·rfl
  ·have := (List.pairwise_cons.1 h.srt).1 x hx
   rw [this] at h1; cases h1
theorem HRep.peek {l m : List Q} (h : HRep l m) : peekL l = peekM m := by
 cases l with
 | nil => rw [List.nil_perm.1 h.perm]; rfl
 | cons x l => obtain ⟨m', rfl⟩ := h.head; rfl
theorem HRep.pop {l m : List Q} (h : HRep l m) : (popL l).1 = (peekM m).1 ∧ (popL l).2.1 = (peekM m).2 ∧ HRep (popL l).2.2 m.tail := by
 cases l with
 | nil =>
  have := List.nil_perm.1 h.perm
  subst this
  exact ⟨rfl, rfl, HRep.nil⟩
 | cons x l =>
  obtain ⟨m', rfl⟩ := h.head
  obtain ⟨a, b⟩ := out_heap totK (x :: l) 0 (by simp) h.hp
  refine ⟨rfl, rfl, a, ?_, (List.pairwise_cons.1 h.srt).2, by have := h.ids; simp only [List.map_cons, List.nodup_cons] at this; exact this.2⟩
  have := b.trans h.perm
  exact (List.perm_cons x).1 this
theorem filter_ne_of {l R : List Q} {x : Q} (hp : (x :: R).Perm l) (hn : (l.map (·.2.2.2)).Nodup) : R.Perm (l.filter fun y => !(y.2.2.2 == x.2.2.2)) := by
 have h1 := hp.filter fun y => !(y.2.2.2 == x.2.2.2)
 rw [List.filter_cons_of_neg (by simp)] at h1
 have h2 := ((hp.map (·.2.2.2)).nodup_iff).2 hn
 simp only [List.map_cons, List.nodup_cons] at h2
 rw [List.filter_eq_self.2] at h1
 ·exact h1
 ·intro y hy
  have : y.2.2.2 ≠ x.2.2.2 := fun e => h2.1 (List.mem_map.2 ⟨y, hy, e⟩)
  simpa using this
theorem filter_noneK {m : List Q} {id : Int} (h : (m.any fun d => d.2.2.2 == id) = false) : (m.filter fun d => !(d.2.2.2 == id)) = m :=
 List.filter_eq_self.2 fun d hd => by simpa using List.any_eq_false.1 h d hd
theorem HRep.nodF {l m : List Q} (h : HRep l m) (p : Q → Bool) : ((m.filter p).map (·.2.2.2)).Nodup := (List.Sublist.map _ List.filter_sublist).nodup h.ids
theorem HRep.rem {l m : List Q} (h : HRep l m) {id r : Int} (hr : Idx (fun x => x.2.2.2 == id) l r) : HRep (remL l r) (m.filter fun x => !(x.2.2.2 == id)) := by
 have hi := h.idx hr
 rcases hr with ⟨rfl, hno⟩ | ⟨q, hq, rfl, hid, _⟩
 ·have : (m.any fun x => x.2.2.2 == id) = false := by rw [← hi]; rfl
  rw [filter_noneK this]
  exact h
 ·have hid' : l[q].2.2.2 = id := by simpa using hid
  obtain ⟨a, b⟩ := out_heap totK l q hq h.hp
  rw [at_eq l q hq] at b
  have e : remL l (q : Int) = outL ltK l q := by unfold remL; rw [if_pos (by omega)]; simp
  rw [e]
  refine ⟨a, ?_, srtK_filter h.srt _, h.nodF _⟩
  have := filter_ne_of b h.nod
  rw [hid'] at this
  exact this.trans (h.perm.filter _)
theorem set_perm (l : List Q) (q : Nat) (k : Q) (h : q < l.length) : ∃ R, (l[q] :: R).Perm l ∧ (l.set q k).Perm (k :: R) := by
 refine ⟨l.take q ++ l.drop (q + 1), ?_, ?_⟩
 ·have e : l.take q ++ l[q] :: l.drop (q + 1) = l := by rw [List.getElem_cons_drop, List.take_append_drop]
  have := (List.perm_middle (a := l[q]) (l₁ := l.take q) (l₂ := l.drop (q + 1)))
  rw [e] at this
  exact this.symm
 ·rw [List.set_eq_take_append_cons_drop, if_pos h]
  exact List.perm_middle
theorem HRep.chg {l m : List Q} (h : HRep l m) {r : Int} {k : Q} (hr : Idx (fun x => x.2.2.2 == k.2.2.2) l r) :
  HRep (chgL l r k) (if (m.any fun x => x.2.2.2 == k.2.2.2) = true then insK k (m.filter fun x => !(x.2.2.2 == k.2.2.2)) else m) := by
 have hi := h.idx hr
 rcases hr with ⟨rfl, hno⟩ | ⟨q, hq, rfl, hid, _⟩
 ·have : (m.any fun x => x.2.2.2 == k.2.2.2) = false := by rw [← hi]; rfl
  rw [this, if_neg (by simp)]
  exact h
 ·have hid' : l[q].2.2.2 = k.2.2.2 := by simpa using hid
  have : (m.any fun x => x.2.2.2 == k.2.2.2) = true := by rw [← hi]; simp
  rw [this, if_pos rfl]
  obtain ⟨a, b⟩ := change_heap totK l q k hq h.hp
  have e : chgL l (q : Int) k = upL ltK (downL ltK (l.set q k) q) q := by unfold chgL; rw [if_pos (by omega)]; simp
  rw [e]
  obtain ⟨R, hR1, hR2⟩ := set_perm l q k hq
  have hR3 := filter_ne_of hR1 h.nod
  rw [hid'] at hR3
  have hR4 := hR3.trans (h.perm.filter fun y => !(y.2.2.2 == k.2.2.2))
  have hnot : k ∉ m.filter fun y => !(y.2.2.2 == k.2.2.2) := fun hc => by
   have := (List.mem_filter.1 hc).2
   simp at this
  refine ⟨a, (b.trans hR2).trans ((hR4.cons k).trans (insK_perm _ _).symm), insK_srt (srtK_filter h.srt _) hnot, ?_⟩
  have := ((insK_perm k (m.filter fun y => !(y.2.2.2 == k.2.2.2))).map (·.2.2.2)).nodup_iff
  rw [this]
  simp only [List.map_cons, List.nodup_cons]
  refine ⟨fun hc => ?_, h.nodF _⟩
  obtain ⟨y, hy, e⟩ := List.mem_map.1 hc
  have := (List.mem_filter.1 hy).2
  simp [e] at this
def pushM (room : Nat) (m : List Q) (k : Q) : Int × List Q :=
 if (m.any fun x => x.2.2.2 == k.2.2.2) = true then (7, m) else if m.length = room then (3, m) else (0, insK k m)
theorem HRep.push {l m : List Q} (h : HRep l m) {room : Nat} {r : Int} {k : Q} (hr : Idx (fun x => x.2.2.2 == k.2.2.2) l r) (hlen : m.length ≤ room) :
  (pushL l room r k).1 = (pushM room m k).1 ∧ HRep (pushL l room r k).2 (pushM room m k).2 ∧ (pushM room m k).2.length ≤ room := by
 have hi := h.idx hr
 unfold pushL pushM
 by_cases h0 : 0 ≤ r
 ·rw [if_pos h0]
  rw [decide_eq_true h0] at hi
  rw [← hi, if_pos rfl]
  exact ⟨rfl, h, hlen⟩
 ·rw [if_neg h0]
  rw [decide_eq_false h0] at hi
  simp only [← hi, Bool.false_eq_true, if_false, h.len]
  by_cases hf : m.length = room
  ·rw [if_pos hf, if_pos hf]; exact ⟨rfl, h, hlen⟩
  ·rw [if_neg hf, if_neg hf]
   obtain ⟨a, b⟩ := push_heap totK l k h.hp
   rw [h.len] at a b
   have hnot : k ∉ m := fun hk => by
    have := List.any_eq_false.1 hi.symm k hk
    simp at this
   refine ⟨rfl, ⟨a, ?_, insK_srt h.srt hnot, ?_⟩, by simp only [(insK_perm k m).length_eq, List.length_cons]; omega⟩
   ·refine b.trans ((List.perm_append_comm).trans ?_)
    exact ((h.perm.cons k)).trans (insK_perm k m).symm
   ·rw [((insK_perm k m).map (·.2.2.2)).nodup_iff]
    simp only [List.map_cons, List.nodup_cons]
    refine ⟨fun hc => ?_, h.ids⟩
    obtain ⟨y, hy, e⟩ := List.mem_map.1 hc
    have := List.any_eq_false.1 hi.symm y hy
    simp [e] at this
end
section
open Go.RowKit
def HH (B : Nat) (w : World) (p : Nat) (F : Nat → Prop) (room : Nat) (m : List Q) : Prop := ∃ l, HA 166 B w p F l room ∧ HRep l m ∧ m.length ≤ room ∧ room ≤ 1024
section
variable {B p room : Nat} {F : Nat → Prop} {m : List Q} {w w' : World}
theorem HH.keep {T : Nat → Prop} (h : HH B w p F room m) (hf : Fr T w w') (hT : ∀ k, F k → ¬ T k) : HH B w' p F room m := by
 obtain ⟨l, h1, r⟩ := h
 exact ⟨l, h1.keep hf hT, r⟩
theorem HH.below (h : HH B w p F room m) (hb : Below w.heap.size w w') : HH B w' p F room m := h.keep (Fr.of_below (S := fun _ => False) hb) (by simp)
theorem HH.flt (h : HH B w p F room m) (k : Nat) (hk : F k) : k < w.heap.size ∧ B ≤ k := by obtain ⟨l, h1, r⟩ := h; exact h1.flt k hk
theorem HH.srt (h : HH B w p F room m) : SrtK m := by obtain ⟨l, h1, r, a, b⟩ := h; exact r.srt
theorem HH.ids (h : HH B w p F room m) : (m.map (·.2.2.2)).Nodup := by obtain ⟨l, h1, r, a, b⟩ := h; exact r.ids
theorem hnew_m (B room : Nat) (w : World) (h1 : 1 ≤ room) (h2 : room ≤ 1024) (hB : B ≤ w.heap.size) :
  Calls Tryz.prog 37 #[.int .i64 room] w fun e w' => (∃ p F, e = .returned (.tuple #[.pointer (some ⟨p, 0, none⟩), .int .i64 0]) ∧ HH B w' p F room [] ∧ (∀ k, F k → w.heap.size ≤ k)) ∧ Below w.heap.size w w' :=
 (hnew_good B room w h1 h2 hB).mono fun _ _ ⟨⟨p, F, he, hW, hF⟩, hb⟩ => ⟨⟨p, F, he, ⟨_, hW, HRep.nil, Nat.zero_le _, h2⟩, hF⟩, hb⟩
theorem push_m (h : HH B w p F room m) (hB : B ≤ w.heap.size) (k : Q) :
  Calls Tryz.prog 67 #[.pointer (some ⟨p, 0, none⟩), qv k] w fun e w' => e = .returned (.int .i64 (pushM room m k).1) ∧ ∃ F', HH B w' p F' room (pushM room m k).2 ∧ (∀ j, F' j → F j ∨ w.heap.size ≤ j) ∧ Fr F w w' := by
 obtain ⟨l, hA, hR, hl, h2⟩ := h
 refine (push_any hA hB k (by rw [hR.len]; omega)).mono ?_
 rintro e w' ⟨r, hr, rfl, F', hA', hF, hf⟩
 obtain ⟨a, b, c⟩ := hR.push hr hl
 exact ⟨by rw [a], F', ⟨_, hA', b, c, h2⟩, hF, hf⟩
theorem peek_m (h : HH B w p F room m) :
  Calls Tryz.prog 70 #[.pointer (some ⟨p, 0, none⟩)] w fun e w' => e = .returned (.tuple #[qv (peekM m).1, .bool (peekM m).2]) ∧ Below w.heap.size w w' := by
 obtain ⟨l, hA, hR, hl, h2⟩ := h
 have := peek_any hA
 rw [hR.peek] at this
 exact this
theorem remove_m (h : HH B w p F room m) (id : Int) :
  Calls Tryz.prog 94 #[.pointer (some ⟨p, 0, none⟩), .int .i64 id] w fun e w' => e = .returned (.bool (m.any fun x => x.2.2.2 == id)) ∧ HH B w' p F room (m.filter fun x => !(x.2.2.2 == id)) ∧ Fr F w w' := by
 obtain ⟨l, hA, hR, hl, h2⟩ := h
 refine (remove_any hA id (by rw [hR.len]; omega)).mono ?_
 rintro e w' ⟨r, hr, rfl, hA', hf⟩
 exact ⟨by rw [hR.idx hr], ⟨_, hA', hR.rem hr, Nat.le_trans (List.length_filter_le _ _) hl, h2⟩, hf⟩
theorem filter_two_len (p : Q → Bool) (m : List Q) : (m.filter p).length + (m.filter fun d => !p d).length = m.length := by
 induction m with
 | nil => rfl
 | cons x m ih => by_cases h : p x = true <;> simp [h] <;> omega
def chgM (m : List Q) (k : Q) : List Q := if (m.any fun x => x.2.2.2 == k.2.2.2) = true then insK k (m.filter fun x => !(x.2.2.2 == k.2.2.2)) else m
theorem chgM_len (m : List Q) (k : Q) : (chgM m k).length ≤ m.length := by
 unfold chgM
 split
 ·rename_i h
  obtain ⟨d, hd, hp⟩ := List.any_eq_true.1 h
  rw [(insK_perm _ _).length_eq, List.length_cons]
  have h1 : (m.filter fun x => !(x.2.2.2 == k.2.2.2)).length + (m.filter fun x => x.2.2.2 == k.2.2.2).length = m.length := by
   have := filter_two_len (fun x : Q => x.2.2.2 == k.2.2.2) m
   omega
  have h2 : 0 < (m.filter fun x => x.2.2.2 == k.2.2.2).length := List.length_pos_of_mem (List.mem_filter.2 ⟨hd, hp⟩)
  omega
 ·omega
theorem change_m (h : HH B w p F room m) (k : Q) :
  Calls Tryz.prog 107 #[.pointer (some ⟨p, 0, none⟩), qv k] w fun e w' => e = .returned (.bool (m.any fun x => x.2.2.2 == k.2.2.2)) ∧ HH B w' p F room (chgM m k) ∧ Fr F w w' := by
 obtain ⟨l, hA, hR, hl, h2⟩ := h
 refine (change_any hA k (by rw [hR.len]; omega)).mono ?_
 rintro e w' ⟨r, hr, rfl, hA', hf⟩
 exact ⟨by rw [hR.idx hr], ⟨_, hA', hR.chg hr, Nat.le_trans (chgM_len m k) hl, h2⟩, hf⟩
end
structure HO (w0 w : World) (p room : Nat) (F : Nat → Prop) (m : List Q) : Prop where
 a : HH w0.heap.size w p F room m
 bel : Below w0.heap.size w0 w
section
variable {p room : Nat} {F : Nat → Prop} {m : List Q} {w0 w w' : World}
end
end
section
section
variable {tk : Nat → Tk} {n : Nat} {R ahead dear : Nat → Int} {b g : Int} {σ : Nat → Bool} {calm : Prop}
variable (A : ∀ i, i < n → An tk n i b g (R i) (ahead i) (dear i))
include A
end
end
section
section
variable {tk : Nat → Tk} {n : Nat} {R : Nat → Int} {calm : Prop}
variable {ahead dear : Nat → Int} {b g : Int} {σ : Nat → Bool}
end
end
section
theorem rstep_must (t : Tk) (j : Jb) (hit : Bool) : (rstep t j hit).1.must = j.must ∧ (rstep t j hit).1.no = j.no := by
 unfold rstep
 split
 ·exact ⟨rfl, rfl⟩
 ·split
  ·split
   ·exact ⟨rfl, rfl⟩
   ·exact ⟨rfl, rfl⟩
  ·split
   ·exact ⟨rfl, rfl⟩
   ·exact ⟨rfl, rfl⟩
theorem jstep_must (t : Tk) (j : Jb) (hit : Bool) : (jstep t j hit).1.must = j.must ∧ (jstep t j hit).1.no = j.no := by
 have h := rstep_must t j hit
 unfold jstep
 simp only
 split
 ·exact h
 ·split
  ·exact h
  ·exact h
section
variable {tk : Nat → Tk} {n : Nat}
theorem rels_same {s s' : St} {rs : List (Int × Int)} {ev : List Ev} (h : Rels tk n s rs s' ev) :
  s'.now = s.now ∧ s'.last = s.last ∧ (∀ i, s.cnt i ≤ s'.cnt i) ∧ (∀ i, s'.job i = s.job i ∨ ∃ j, s'.job i = some j ∧ s.cnt i ≤ j.no) ∧ ev.length ≤ rs.length := by
 induction h with
 | nil s => exact ⟨rfl, rfl, fun i => Int.le_refl _, fun i => .inl rfl, Nat.le_refl _⟩
 | @cons s s1 s2 r rs e1 e2 h1 h2 ih =>
  obtain ⟨a1, a2, a3, a4, a5⟩ := ih
  have key : s1.now = s.now ∧ s1.last = s.last ∧ (∀ i, s.cnt i ≤ s1.cnt i) ∧ (∀ i, s1.job i = s.job i ∨ ∃ j, s1.job i = some j ∧ s.cnt i ≤ j.no) ∧ e1.length ≤ 1 := by
   cases h1 with
   | none i d h => exact ⟨rfl, rfl, fun i => Int.le_refl _, fun i => .inl rfl, by simp⟩
   | early i d h ho => exact ⟨rfl, rfl, fun i => Int.le_refl _, fun i => .inl rfl, by simp⟩
   | good i d m h ho hm =>
    refine ⟨rfl, rfl, fun k => ?_, fun k => ?_, by simp⟩
    ·show s.cnt k ≤ upd s.cnt i (s.cnt i + 1) k
     by_cases hk : k = i
     ·subst hk; rw [upd_self]; omega
     ·rw [upd_ne _ _ hk]; omega
    ·by_cases hk : k = i
     ·subst hk; exact .inr ⟨_, upd_self _ _ _, Int.le_refl _⟩
     ·exact .inl (upd_ne _ _ hk)
  obtain ⟨b1, b2, b3, b4, b5⟩ := key
  refine ⟨a1.trans b1, a2.trans b2, fun i => Int.le_trans (b3 i) (a3 i), fun i => ?_, by rw [List.length_append, List.length_cons]; omega⟩
  rcases a4 i with h | ⟨j, h, hn⟩
  ·rcases b4 i with k | ⟨j, k, kn⟩
   ·exact .inl (h.trans k)
   ·exact .inr ⟨j, h.trans k, kn⟩
  ·exact .inr ⟨j, h, Int.le_trans (b3 i) hn⟩
theorem bands_one {s s' : St} {rs : List (Int × Int)} {hit : Bool} {ev : List Ev} (hno : ∀ i j, i < n → s.job i = some j → j.no < s.cnt i) (h : Tick1 tk n s rs hit s' ev)
  {i : Nat} {a c : Jb} (hi : i < n) (ha : s.job i = some a) (hc : s'.job i = some c) (hn : a.no = c.no) (hne : a ≠ c) (hm : c.must = false)
  {k : Nat} {J : Jb} (hk : k < n) (hJ : s'.job k = some J) : J.must = false := by
 cases h with
 | @mk s2 s3 e2 e3 h2 h3 =>
  have hl := (late_to (tk := tk) s n).1
  obtain ⟨a1, a2, a3, a4, a5⟩ := rels_same h2
  have hs2 : ∀ c, s2.job i = some c → a.no = c.no → c = a := by
   intro c hc hn
   rcases a4 i with e | ⟨j, e, hj⟩
   ·rw [hc] at e
    rcases hl.job i with e' | ⟨e', _⟩
    ·rw [e', ha] at e; cases e; rfl
    ·rw [e'] at e; cases e
   ·rw [hc] at e; cases e
    rw [hl.cnt] at hj
    have := hno i a hi ha
    omega
  cases h3 with
  | none h =>
   exact absurd (hs2 c hc hn) (Ne.symm hne)
  | some i0 j0 hT =>
   have hjob : ∀ k, k ≠ i0 → (runS tk s2 i0 j0 hit).1.job k = s2.job k := by
    intro k hk
    unfold runS runOut
    simp only
    split
    ·exact upd_ne _ _ hk
    ·split
     ·exact upd_ne _ _ hk
     ·split
      ·split
       ·exact (upd_ne _ _ hk).trans (upd_ne _ _ hk)
       ·split
        ·exact (upd_ne _ _ hk).trans (upd_ne _ _ hk)
        ·exact upd_ne _ _ hk
      ·split
       ·exact (upd_ne _ _ hk).trans (upd_ne _ _ hk)
       ·exact upd_ne _ _ hk
   have hself : ∀ c, (runS tk s2 i0 j0 hit).1.job i0 = some c → c = (jstep (tk i0) j0 hit).1 := by
    intro c
    unfold runS runOut
    simp only
    have g : ∀ (S : St) (m : Bool), (gone S i0 m).job i0 = some c → c = (jstep (tk i0) j0 hit).1 := fun S m e => by
     rw [show (gone S i0 m).job i0 = none from upd_self _ _ _] at e; cases e
    have u : upd s2.job i0 (some (jstep (tk i0) j0 hit).1) i0 = some c → c = (jstep (tk i0) j0 hit).1 := fun e => by
     rw [upd_self] at e; cases e; rfl
    split
    ·exact u
    ·split
     ·exact u
     ·split
      ·split
       ·exact g _ _
       ·split
        ·exact g _ _
        ·exact u
      ·split
       ·exact g _ _
       ·exact u
   by_cases hii : i = i0
   ·subst hii
    have hj0 : j0.must = false := by rw [← (jstep_must (tk i) j0 hit).1, ← hself c hc]; exact hm
    by_cases hki : k = i
    ·subst hki
     have e1 : some J = some c := hJ.symm.trans hc
     cases e1; exact hm
    ·have e1 : s2.job k = some J := by rw [← hjob k hki]; exact hJ
     have hb := hT.2.2 k J hk hki e1
     have b0 : bandJ (tk i) j0 = 2 := by unfold bandJ; rw [if_pos hj0]
     cases hJm : J.must with
     | false => rfl
     | true =>
      exfalso
      have : bandJ (tk k) J ≤ 1 := by unfold bandJ; rw [if_neg (by rw [hJm]; simp)]; split <;> omega
      unfold before at hb
      omega
   ·exact absurd (hs2 c (by rw [← hjob i hii]; exact hc) hn) (Ne.symm hne)
theorem lateTo_len (s : St) (m : Nat) : (lateTo tk s m).2.length ≤ m := by
 induction m with
 | zero => exact Nat.le_refl _
 | succ m ih =>
  unfold lateTo
  split
  ·omega
  ·split
   ·simp only [List.length_append, List.length_cons, List.length_nil]; omega
   ·omega
theorem runOut_len (s : St) (i : Nat) (j : Jb) (what : Int) : (runOut tk s i j what).2.length ≤ 1 := by
 unfold runOut
 split
 ·exact Nat.le_refl _
 ·split
  ·exact Nat.le_refl _
  ·split
   ·split
    ·exact Nat.le_refl _
    ·split
     ·exact Nat.le_refl _
     ·exact Nat.le_refl _
   ·split
    ·exact Nat.le_refl _
    ·exact Nat.zero_le _
theorem events_few {s s' : St} {rs : List (Int × Int)} {hit : Bool} {ev : List Ev} (h : Tick1 tk n s rs hit s' ev) : ev.length ≤ n + rs.length + 2 := by
 cases h with
 | @mk s2 s3 e2 e3 h2 h3 =>
  have h1 := lateTo_len (tk := tk) s n
  obtain ⟨_, _, _, _, h2'⟩ := rels_same h2
  have h3' : e3.length ≤ 2 := by
   cases h3 with
   | none h => simp
   | some i j hT =>
    unfold runS
    simp only [List.length_append]
    have a := runOut_len (tk := tk) { s2 with job := upd s2.job i (some (jstep (tk i) j hit).1), last := (i : Int) } i (jstep (tk i) j hit).1 (jstep (tk i) j hit).2
    have b : (evStart tk s2 i j).length ≤ 1 := by
     unfold evStart
     split
     ·simp
     ·split <;> simp
    omega
  simp only [List.length_append]
  omega
end
end
section
open Go.RowKit
structure XFix where
 x : Nat
 tb : Nat
 tc : Nat
 jb : Nat
 jc : Nat
 sb : Nat
 sc : Nat
 ph : Nat
 gp : Nat
 gq : Nat
 gc : Nat
 ty : Nat
 tp : Nat
 tq : Nat
 sk : Nat → Nat
 sz : Nat → Nat
 sp : Nat → Nat
 sq : Nat → Nat
def evc (e : Ev) : List Value := [.int .i64 e.at_, .int .i64 e.what, .int .i64 e.task, .int .i64 e.job, .int .i64 e.band]
def jbc (i : Int) (t : Tk) (j : Jb) : List Value := [.int .i64 i, .int .i64 j.no, .int .i64 j.rel, .int .i64 (j.rel + t.D), .bool j.must, .bool j.over, .bool j.begun, .string t.nm, .int .i64 t.T, .int .i64 t.D, .int .i64 t.C, .int .i64 t.A, .int .i64 t.Seg, .int .i64 t.Cost, .int .i64 t.M, .int .i64 t.K, .int .i64 t.Mode, .int .i64 t.Prio, .int .i64 j.dem, .int .i64 j.part, .int .i64 j.left, .bool j.struck, .int .i64 j.fails]
theorem jbv_eq (i : Int) (t : Tk) (j : Jb) : jbv i t j = .agg (jbc i t j).toArray := rfl
def jptr (o : Option Jb) (b : Nat) : Value := match o with | none => .pointer none | some _ => .pointer (some ⟨b, 0, none⟩)
structure X1 (w : World) (A : XFix) (bu : Int) (n : Nat) (now : Nat) (last : Int) (so : Value) : Prop where
 f0 : w.cell? ⟨A.x, 0, none⟩ = some (.int .i64 bu)
 f1 : w.cell? ⟨A.x, 1, none⟩ = some (.slice (some ⟨A.tb, 0, none⟩) n A.tc)
 f2 : w.cell? ⟨A.x, 2, none⟩ = some (.int .i64 now)
 f3 : w.cell? ⟨A.x, 3, none⟩ = some (.slice (some ⟨A.jb, 0, none⟩) n A.jc)
 f4 : w.cell? ⟨A.x, 4, none⟩ = some (.int .i64 last)
 f5 : w.cell? ⟨A.x, 5, none⟩ = some (.pointer (some ⟨A.ph, 0, none⟩))
 f6 : w.cell? ⟨A.x, 6, none⟩ = some (.pointer (some ⟨A.gp, 0, none⟩))
 f7 : w.cell? ⟨A.x, 7, none⟩ = some (.slice (some ⟨A.sb, 0, none⟩) n A.sc)
 f8 : w.cell? ⟨A.x, 8, none⟩ = some (.pointer (some ⟨A.ty, 0, none⟩))
 f9 : w.cell? ⟨A.x, 9, none⟩ = some so
 fz : ∀ o, w.frozen? ⟨A.x, o, none⟩ = false
structure XJ (w : World) (A : XFix) (n : Nat) (tk : Nat → Tk) (job : Nat → Option Jb) (jbk : Nat → Nat) : Prop where
 row : ∀ i, i < n → w.cell? ⟨A.jb, i, none⟩ = some (jptr (job i) (jbk i))
 z : ∀ o, w.frozen? ⟨A.jb, o, none⟩ = false
 rg : ∀ i J, i < n → job i = some J → w.rangeAt (jbk i) 0 (jbc i (tk i) J)
 th : ∀ i J, i < n → job i = some J → w.there (jbk i) 0 23
structure XS (w : World) (A : XFix) (n : Nat) (tk : Nat → Tk) (win : Nat → List Bool) (Mx : Nat) : Prop where
 row : ∀ i, i < n → w.cell? ⟨A.sb, i, none⟩ = some (.pointer (some ⟨A.sk i, 0, none⟩))
 sk : ∀ i, i < n → ∃ f j cf, SKp w (A.sk i) (A.sz i) (A.sp i) (A.sq i) (tk i).K.toNat f (tk i).M.toNat j cf ∧ ringL (tk i).K.toNat f (tk i).K.toNat cf = win i ∧ j ≤ Mx
structure XC (B : Nat) (w : World) (A : XFix) (n : Nat) (col : Nat → Nat) (F : Nat → Prop) (so : Value) (job : Nat → Option Jb) (jbk : Nat → Nat) : Prop where
 x : col A.x = 1
 tb : col A.tb = 7
 jb : col A.jb = 5
 sb : col A.sb = 8
 sk : ∀ i, i < n → col (A.sk i) = 10 + i ∧ col (A.sz i) = 10 + i ∧ col (A.sp i) = 10 + i ∧ col (A.sq i) = 10 + i
 hp : ∀ k, F k → col k = 2
 g : col A.gp = 3 ∧ col A.gq = 3
 t : col A.ty = 4 ∧ col A.tp = 4 ∧ col A.tq = 4
 o : ∀ k, so.ownBlock = some k → col k = 6
 j : ∀ i J, i < n → job i = some J → col (jbk i) = 100 + i
 lt : ∀ k, col k ≠ 0 → B ≤ k ∧ k < w.heap.size
 n16 : n ≤ 16
def keyJ (tk : Nat → Tk) (i : Nat) (J : Jb) : Q := (bandJ (tk i) J, (tk i).Prio, (J.rel : Int), (i : Int))
structure XW (B : Nat) (A : XFix) (bu : Int) (n : Nat) (tk : Nat → Tk) (w : World) (s : St) (out : List Ev) (Mx : Nat) (col : Nat → Nat) (F : Nat → Prop) (hm : List Q) (so : Value) (jbk : Nat → Nat) (gs : List Gate) (kj : Nat → Option Jb) : Prop where
 f : X1 w A bu n s.now s.last so
 tsk : ∀ j, j < n → w.rangeAt A.tb (j * 11) (tkc (tk j))
 jb : XJ w A n tk s.job jbk
 sk : XS w A n tk s.win Mx
 hp : HH B w A.ph F n hm
 g : GuardAt w A.gp A.gq A.gc Mx gs
 t : ∃ f m ef tf, TA w A.ty A.tp A.tq 64 f m ef tf
 o : w.ownsRow B 44 5 so out.length (out.flatMap evc)
 c : XC B w A n col F so s.job jbk
 gl : gs.length = n
 ga : ∀ i (h : i < gs.length), gs[i].apart = (tk i).T ∧ gs[i].opn = s.opn i ∧ gs[i].count = s.cnt i
 hk : ∀ q : Q, q ∈ hm ↔ ∃ i J, i < n ∧ kj i = some J ∧ q = keyJ tk i J
 ok : ∀ i, i < n → (tk i).Ok
 jk : ∀ i J, i < n → kj i = some J → JbOk (tk i) J ∧ 0 ≤ J.fails ∧ J.fails ≤ Mx ∧ J.left ≤ 2147483648 ∧ J.rel ≤ s.now
 no : s.now ≤ 1099511627776
 mx : Mx ≤ 1000000
section
variable {B n : Nat} {A : XFix} {bu : Int} {tk : Nat → Tk} {w w' : World} {s : St} {out : List Ev} {Mx : Nat} {col : Nat → Nat} {F : Nat → Prop} {hm : List Q} {so : Value} {jbk : Nat → Nat} {gs : List Gate} {kj : Nat → Option Jb} {T : Nat → Prop}
theorem XC.xlt (h : XC B w A n col F so s.job jbk) : A.x < w.heap.size := (h.lt _ (by rw [h.x]; omega)).2
theorem X1.keep {now : Nat} {last : Int} (h : X1 w A bu n now last so) (hf : Fr T w w') (hT : ¬ T A.x) : X1 w' A bu n now last so := by
 have hx : A.x < w.heap.size := block_lt h.f0
 exact ⟨(hf.cell (p := ⟨A.x, 0, none⟩) hx hT).trans h.f0, (hf.cell (p := ⟨A.x, 1, none⟩) hx hT).trans h.f1, (hf.cell (p := ⟨A.x, 2, none⟩) hx hT).trans h.f2, (hf.cell (p := ⟨A.x, 3, none⟩) hx hT).trans h.f3, (hf.cell (p := ⟨A.x, 4, none⟩) hx hT).trans h.f4,
  (hf.cell (p := ⟨A.x, 5, none⟩) hx hT).trans h.f5, (hf.cell (p := ⟨A.x, 6, none⟩) hx hT).trans h.f6, (hf.cell (p := ⟨A.x, 7, none⟩) hx hT).trans h.f7, (hf.cell (p := ⟨A.x, 8, none⟩) hx hT).trans h.f8, (hf.cell (p := ⟨A.x, 9, none⟩) hx hT).trans h.f9, fun o => (hf.frozen (p := ⟨A.x, o, none⟩) hx hT).trans (h.fz o)⟩
theorem XJ.keep {job : Nat → Option Jb} (h : XJ w A n tk job jbk) (hf : Fr T w w') (h1 : A.jb < w.heap.size) (h2 : ¬ T A.jb) (h3 : ∀ i J, i < n → job i = some J → jbk i < w.heap.size ∧ ¬ T (jbk i)) : XJ w' A n tk job jbk :=
 ⟨fun i hi => (hf.cell (p := ⟨A.jb, i, none⟩) h1 h2).trans (h.row i hi), fun o => (hf.frozen (p := ⟨A.jb, o, none⟩) h1 h2).trans (h.z o),
  fun i J hi e => rg_fr hf (h3 i J hi e).1 (h3 i J hi e).2 (h.rg i J hi e), fun i J hi e => th_fr (h.th i J hi e) hf (h3 i J hi e).1 (h3 i J hi e).2⟩
theorem XS.keep {win : Nat → List Bool} (h : XS w A n tk win Mx) (hf : Fr T w w') (h1 : A.sb < w.heap.size) (h2 : ¬ T A.sb) (h3 : ∀ i, i < n → ¬ T (A.sk i) ∧ ¬ T (A.sz i) ∧ ¬ T (A.sp i) ∧ ¬ T (A.sq i)) : XS w' A n tk win Mx :=
 ⟨fun i hi => (hf.cell (p := ⟨A.sb, i, none⟩) h1 h2).trans (h.row i hi), fun i hi => by
  obtain ⟨f, j, cf, a, b, c⟩ := h.sk i hi
  obtain ⟨t1, t2, t3, t4⟩ := h3 i hi
  exact ⟨f, j, cf, a.keep hf t1 t2 t3 t4, b, c⟩⟩
theorem XW.keep (h : XW B A bu n tk w s out Mx col F hm so jbk gs kj) (hf : Fr T w w') (hT : ∀ k, T k → col k = 0) : XW B A bu n tk w' s out Mx col F hm so jbk gs kj := by
 have ne : ∀ {k c : Nat}, col k = c → c ≠ 0 → ¬ T k := fun e hc t => hc (by rw [← e]; exact hT _ t)
 have lt : ∀ {k c : Nat}, col k = c → c ≠ 0 → k < w.heap.size := fun e hc => (h.c.lt _ (by rw [e]; exact hc)).2
 refine ⟨h.f.keep hf (ne h.c.x (by omega)), fun j hj => rg_fr hf (lt h.c.tb (by omega)) (ne h.c.tb (by omega)) (h.tsk j hj),
  h.jb.keep hf (lt h.c.jb (by omega)) (ne h.c.jb (by omega)) (fun i J hi e => ⟨lt (h.c.j i J hi e) (by omega), ne (h.c.j i J hi e) (by omega)⟩),
  h.sk.keep hf (lt h.c.sb (by omega)) (ne h.c.sb (by omega)) (fun i hi => ⟨ne (h.c.sk i hi).1 (by omega), ne (h.c.sk i hi).2.1 (by omega), ne (h.c.sk i hi).2.2.1 (by omega), ne (h.c.sk i hi).2.2.2 (by omega)⟩),
  h.hp.keep hf (fun k hk => ne (h.c.hp k hk) (by omega)), h.g.keep hf (ne h.c.g.1 (by omega)) (ne h.c.g.2 (by omega)), ?_,
  ownsRow_keep h.o (fun k hk => hf.block k (lt (h.c.o k hk) (by omega)) (ne (h.c.o k hk) (by omega))), { h.c with lt := fun k hk => ⟨(h.c.lt k hk).1, Nat.lt_of_lt_of_le (h.c.lt k hk).2 hf.size⟩ }, h.gl, h.ga, h.hk, h.ok, h.jk, h.no, h.mx⟩
 obtain ⟨f, m, ef, tf, a⟩ := h.t
 exact ⟨f, m, ef, tf, a.keep hf (ne h.c.t.1 (by omega)) (ne h.c.t.2.1 (by omega)) (ne h.c.t.2.2 (by omega))⟩
theorem XW.below (h : XW B A bu n tk w s out Mx col F hm so jbk gs kj) (hb : Below w.heap.size w w') : XW B A bu n tk w' s out Mx col F hm so jbk gs kj :=
 h.keep (T := fun _ => False) (Fr.of_below hb) (fun _ h => h.elim)
end
end
end Go.Proofs.YtnoahekcemfmcaaGreatDoor
