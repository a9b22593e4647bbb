/- THE PLAIN LAW: a heap told of one list in order. -/
import Derived.Test.YtaogdgbijjjpjaaIt3
namespace Go.Proofs.Ytaogdgbijjjpjaa
open Go.RowKit
set_option linter.unusedVariables false

def SrtK (l : List Q) : Prop := l.Pairwise fun x y => ltK x y = true
theorem srt_eqK {l m : List Q} (hp : l.Perm m) (hl : l.Pairwise fun x y => ltK y x = false) (hm : SrtK m) : l = m := by
  refine List.Perm.eq_of_pairwise (le := fun x y => ltK y x = false) (fun a b _ _ h1 h2 => totK.tri a b h2 h1) hl ?_ hp
  exact List.Pairwise.imp (fun h => totK.asym h) hm
theorem srtK_filter {m : List Q} (h : SrtK m) (p : Q → Bool) : SrtK (m.filter p) := List.Pairwise.filter p h

def insK (d : Q) (m : List Q) : List Q := m.takeWhile (fun x => ltK x d) ++ d :: m.dropWhile fun x => ltK x d
theorem insK_perm (d : Q) (m : List Q) : (insK d m).Perm (d :: m) := by
  unfold insK
  refine (List.perm_middle).trans ?_
  rw [List.takeWhile_append_dropWhile]
theorem insK_srt {d : Q} {m : List Q} (h : SrtK m) (hd : d ∉ m) : SrtK (insK d m) := by
  unfold SrtK insK
  have h' : SrtK (m.takeWhile (fun x => ltK x d) ++ m.dropWhile fun x => ltK x d) := by rw [List.takeWhile_append_dropWhile]; exact h
  obtain ⟨h1, h2, h3⟩ := List.pairwise_append.1 h'
  rw [List.pairwise_append]
  refine ⟨h1, ?_, ?_⟩
  · rw [List.pairwise_cons]
    refine ⟨fun y hy => ?_, h2⟩
    cases hdw : m.dropWhile fun x => ltK x d with
    | nil => rw [hdw] at hy; simp at hy
    | cons z zs =>
      have hz : ltK z d = false := by
        have := List.head?_dropWhile_not (fun x => ltK x d) m
        rw [hdw] at this
        simpa using this
      have hzd : ltK d z = true := by
        cases hc : ltK d z
        · have := totK.tri _ _ hz hc
          exact absurd ((List.dropWhile_sublist (fun x => ltK x d)).subset (by rw [hdw, this]; exact List.mem_cons_self)) hd
        · rfl
      rw [hdw] at hy h2
      rcases List.mem_cons.1 hy with rfl | hy
      · exact hzd
      · exact totK.tr _ _ _ hzd ((List.pairwise_cons.1 h2).1 y hy)
  · intro x hx y hy
    have hxd : ltK x d = true := by
      have := List.all_eq_true.1 (List.all_takeWhile (l := m) (p := fun x => ltK x d)) x hx
      simpa using this
    rcases List.mem_cons.1 hy with rfl | hy
    · exact hxd
    · exact h3 x hx y hy

structure HRep (l m : List Q) : Prop where
  hp : IsHp ltK l
  perm : l.Perm m
  srt : SrtK m
  ids : (m.map (·.2.2.2)).Nodup

theorem HRep.len {l m : List Q} (h : HRep l m) : l.length = m.length := h.perm.length_eq
theorem HRep.nil : HRep [] [] := ⟨fun k h0 h1 => by simp at h1, List.Perm.refl _, List.Pairwise.nil, List.nodup_nil⟩
/-- What was found, by the list in order. -/
theorem HRep.idx {l m : List Q} (h : HRep l m) {id r : Int} (hr : Idx (fun x => x.2.2.2 == id) l r) : decide (0 ≤ r) = m.any fun x => x.2.2.2 == id := by
  rw [hr.any]; exact h.perm.any_eq
theorem HRep.nod {l m : List Q} (h : HRep l m) : (l.map (·.2.2.2)).Nodup := ((h.perm.map (·.2.2.2)).nodup_iff).2 h.ids

def peekM (m : List Q) : Q × Bool := match m with | [] => ((0, 0, 0, 0), false) | x :: _ => (x, true)
theorem HRep.head {x : Q} {l m : List Q} (h : HRep (x :: l) m) : ∃ m', m = x :: m' := by
  have hx : x ∈ m := h.perm.mem_iff.1 List.mem_cons_self
  cases m with
  | nil => simp at hx
  | cons y m' =>
    refine ⟨m', ?_⟩
    have hy : y ∈ x :: l := h.perm.mem_iff.2 List.mem_cons_self
    obtain ⟨k, hk, e⟩ := List.mem_iff_getElem.1 hy
    have h1 := root_least totK (x :: l) h.hp k hk
    rw [at_eq _ _ hk, e] at h1
    have h0 : at' (x :: l) 0 = x := rfl
    rw [h0] at h1
    rcases List.mem_cons.1 hx with rfl | hx
    · rfl
    · have := (List.pairwise_cons.1 h.srt).1 x hx
      rw [this] at h1; cases h1
theorem HRep.peek {l m : List Q} (h : HRep l m) : peekL l = peekM m := by
  cases l with
  | nil => rw [List.nil_perm.1 h.perm]; rfl
  | cons x l => obtain ⟨m', rfl⟩ := h.head; rfl

theorem HRep.pop {l m : List Q} (h : HRep l m) : (popL l).1 = (peekM m).1 ∧ (popL l).2.1 = (peekM m).2 ∧ HRep (popL l).2.2 m.tail := by
  cases l with
  | nil =>
    have := List.nil_perm.1 h.perm
    subst this
    exact ⟨rfl, rfl, HRep.nil⟩
  | cons x l =>
    obtain ⟨m', rfl⟩ := h.head
    obtain ⟨a, b⟩ := out_heap totK (x :: l) 0 (by simp) h.hp
    refine ⟨rfl, rfl, a, ?_, (List.pairwise_cons.1 h.srt).2, by have := h.ids; simp only [List.map_cons, List.nodup_cons] at this; exact this.2⟩
    have := b.trans h.perm
    exact (List.perm_cons x).1 this

theorem filter_ne_of {l R : List Q} {x : Q} (hp : (x :: R).Perm l) (hn : (l.map (·.2.2.2)).Nodup) : R.Perm (l.filter fun y => !(y.2.2.2 == x.2.2.2)) := by
  have h1 := hp.filter fun y => !(y.2.2.2 == x.2.2.2)
  rw [List.filter_cons_of_neg (by simp)] at h1
  have h2 := ((hp.map (·.2.2.2)).nodup_iff).2 hn
  simp only [List.map_cons, List.nodup_cons] at h2
  rw [List.filter_eq_self.2] at h1
  · exact h1
  · intro y hy
    have : y.2.2.2 ≠ x.2.2.2 := fun e => h2.1 (List.mem_map.2 ⟨y, hy, e⟩)
    simpa using this

theorem filter_noneK {m : List Q} {id : Int} (h : (m.any fun d => d.2.2.2 == id) = false) : (m.filter fun d => !(d.2.2.2 == id)) = m :=
  List.filter_eq_self.2 fun d hd => by simpa using List.any_eq_false.1 h d hd

theorem HRep.nodF {l m : List Q} (h : HRep l m) (p : Q → Bool) : ((m.filter p).map (·.2.2.2)).Nodup := (List.Sublist.map _ List.filter_sublist).nodup h.ids

theorem HRep.rem {l m : List Q} (h : HRep l m) {id r : Int} (hr : Idx (fun x => x.2.2.2 == id) l r) : HRep (remL l r) (m.filter fun x => !(x.2.2.2 == id)) := by
  have hi := h.idx hr
  rcases hr with ⟨rfl, hno⟩ | ⟨q, hq, rfl, hid, _⟩
  · have : (m.any fun x => x.2.2.2 == id) = false := by rw [← hi]; rfl
    rw [filter_noneK this]
    exact h
  · have hid' : l[q].2.2.2 = id := by simpa using hid
    obtain ⟨a, b⟩ := out_heap totK l q hq h.hp
    rw [at_eq l q hq] at b
    have e : remL l (q : Int) = outL ltK l q := by unfold remL; rw [if_pos (by omega)]; simp
    rw [e]
    refine ⟨a, ?_, srtK_filter h.srt _, h.nodF _⟩
    have := filter_ne_of b h.nod
    rw [hid'] at this
    exact this.trans (h.perm.filter _)

theorem set_perm (l : List Q) (q : Nat) (k : Q) (h : q < l.length) : ∃ R, (l[q] :: R).Perm l ∧ (l.set q k).Perm (k :: R) := by
  refine ⟨l.take q ++ l.drop (q + 1), ?_, ?_⟩
  · have e : l.take q ++ l[q] :: l.drop (q + 1) = l := by rw [List.getElem_cons_drop, List.take_append_drop]
    have := (List.perm_middle (a := l[q]) (l₁ := l.take q) (l₂ := l.drop (q + 1)))
    rw [e] at this
    exact this.symm
  · rw [List.set_eq_take_append_cons_drop, if_pos h]
    exact List.perm_middle

theorem HRep.chg {l m : List Q} (h : HRep l m) {r : Int} {k : Q} (hr : Idx (fun x => x.2.2.2 == k.2.2.2) l r) :
    HRep (chgL l r k) (if (m.any fun x => x.2.2.2 == k.2.2.2) = true then insK k (m.filter fun x => !(x.2.2.2 == k.2.2.2)) else m) := by
  have hi := h.idx hr
  rcases hr with ⟨rfl, hno⟩ | ⟨q, hq, rfl, hid, _⟩
  · have : (m.any fun x => x.2.2.2 == k.2.2.2) = false := by rw [← hi]; rfl
    rw [this, if_neg (by simp)]
    exact h
  · have hid' : l[q].2.2.2 = k.2.2.2 := by simpa using hid
    have : (m.any fun x => x.2.2.2 == k.2.2.2) = true := by rw [← hi]; simp
    rw [this, if_pos rfl]
    obtain ⟨a, b⟩ := change_heap totK l q k hq h.hp
    have e : chgL l (q : Int) k = upL ltK (downL ltK (l.set q k) q) q := by unfold chgL; rw [if_pos (by omega)]; simp
    rw [e]
    obtain ⟨R, hR1, hR2⟩ := set_perm l q k hq
    have hR3 := filter_ne_of hR1 h.nod
    rw [hid'] at hR3
    have hR4 := hR3.trans (h.perm.filter fun y => !(y.2.2.2 == k.2.2.2))
    have hnot : k ∉ m.filter fun y => !(y.2.2.2 == k.2.2.2) := fun hc => by
      have := (List.mem_filter.1 hc).2
      simp at this
    refine ⟨a, (b.trans hR2).trans ((hR4.cons k).trans (insK_perm _ _).symm), insK_srt (srtK_filter h.srt _) hnot, ?_⟩
    have := ((insK_perm k (m.filter fun y => !(y.2.2.2 == k.2.2.2))).map (·.2.2.2)).nodup_iff
    rw [this]
    simp only [List.map_cons, List.nodup_cons]
    refine ⟨fun hc => ?_, h.nodF _⟩
    obtain ⟨y, hy, e⟩ := List.mem_map.1 hc
    have := (List.mem_filter.1 hy).2
    simp [e] at this

def pushM (room : Nat) (m : List Q) (k : Q) : Int × List Q :=
  if (m.any fun x => x.2.2.2 == k.2.2.2) = true then (7, m) else if m.length = room then (3, m) else (0, insK k m)

theorem HRep.push {l m : List Q} (h : HRep l m) {room : Nat} {r : Int} {k : Q} (hr : Idx (fun x => x.2.2.2 == k.2.2.2) l r) (hlen : m.length ≤ room) :
    (pushL l room r k).1 = (pushM room m k).1 ∧ HRep (pushL l room r k).2 (pushM room m k).2 ∧ (pushM room m k).2.length ≤ room := by
  have hi := h.idx hr
  unfold pushL pushM
  by_cases h0 : 0 ≤ r
  · rw [if_pos h0]
    rw [decide_eq_true h0] at hi
    rw [← hi, if_pos rfl]
    exact ⟨rfl, h, hlen⟩
  · rw [if_neg h0]
    rw [decide_eq_false h0] at hi
    simp only [← hi, Bool.false_eq_true, if_false, h.len]
    by_cases hf : m.length = room
    · rw [if_pos hf, if_pos hf]; exact ⟨rfl, h, hlen⟩
    · rw [if_neg hf, if_neg hf]
      obtain ⟨a, b⟩ := push_heap totK l k h.hp
      rw [h.len] at a b
      have hnot : k ∉ m := fun hk => by
        have := List.any_eq_false.1 hi.symm k hk
        simp at this
      refine ⟨rfl, ⟨a, ?_, insK_srt h.srt hnot, ?_⟩, by simp only [(insK_perm k m).length_eq, List.length_cons]; omega⟩
      · refine b.trans ((List.perm_append_comm).trans ?_)
        exact ((h.perm.cons k)).trans (insK_perm k m).symm
      · rw [((insK_perm k m).map (·.2.2.2)).nodup_iff]
        simp only [List.map_cons, List.nodup_cons]
        refine ⟨fun hc => ?_, h.ids⟩
        obtain ⟨y, hy, e⟩ := List.mem_map.1 hc
        have := List.any_eq_false.1 hi.symm y hy
        simp [e] at this
end Go.Proofs.Ytaogdgbijjjpjaa
