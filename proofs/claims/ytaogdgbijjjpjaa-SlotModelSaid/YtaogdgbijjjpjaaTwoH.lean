/- TWO HEAPS, apart in memory; and the plain law of a changed key. -/
import Derived.Test.YtaogdgbijjjpjaaHCmpW
import Derived.Test.YtaogdgbijjjpjaaRefW
namespace Go.Proofs.Ytaogdgbijjjpjaa
open Go.RowKit
set_option linter.unusedVariables false

section
variable {p room : Nat} {F : Nat → Prop} {m : List Q} {w0 w w' : World}
theorem HO.pop (h : HO w0 w p room F m) :
    Calls Try.prog 26 #[.pointer (some ⟨p, 0, none⟩)] w fun e w' => e = .returned (.tuple #[qv (peekM m).1, .bool (peekM m).2]) ∧ HO w0 w' p room F m.tail ∧ Fr F w w' :=
  (pop_m h.a).mono fun _ _ ⟨he, hH, hf⟩ => ⟨he, h.turn hH hf, hf⟩
theorem HO.len_ (h : HO w0 w p room F m) : m.length ≤ room ∧ room ≤ 1024 := h.a.len
theorem HO.keep {T : Nat → Prop} (h : HO w0 w p room F m) (hf : Fr T w w') (hT : ∀ k, F k → ¬ T k) (hb : Below w0.heap.size w0 w') : HO w0 w' p room F m := ⟨h.a.keep hf hT, hb⟩
end

structure H2 (w0 w : World) (pa pb : Nat) (Fa Fb : Nat → Prop) (ma mb : List Q) : Prop where
  a : HO w0 w pa 1024 Fa ma
  b : HO w0 w pb 1024 Fb mb
  ap : ∀ k, Fa k → ¬ Fb k
section
variable {pa pb : Nat} {Fa Fb : Nat → Prop} {ma mb m' : List Q} {w0 w w' : World}
theorem H2.swap (h : H2 w0 w pa pb Fa Fb ma mb) : H2 w0 w pb pa Fb Fa mb ma := ⟨h.b, h.a, fun k hb ha => h.ap k ha hb⟩
theorem H2.below (h : H2 w0 w pa pb Fa Fb ma mb) (hb : Below w.heap.size w w') : H2 w0 w' pa pb Fa Fb ma mb := ⟨h.a.below hb, h.b.below hb, h.ap⟩
theorem H2.bel (h : H2 w0 w pa pb Fa Fb ma mb) : Below w0.heap.size w0 w := h.a.bel
theorem H2.turn {Fa' : Nat → Prop} (h : H2 w0 w pa pb Fa Fb ma mb) (h' : HO w0 w' pa 1024 Fa' m') (hF : ∀ k, Fa' k → Fa k ∨ w.heap.size ≤ k) (hf : Fr Fa w w') : H2 w0 w' pa pb Fa' Fb m' mb :=
  ⟨h', h.b.keep hf (fun k hb ha => h.ap k ha hb) h'.bel, fun k ha hb => (hF k ha).elim (fun ha => h.ap k ha hb) fun hk => by have := (h.b.a.flt k hb).1; omega⟩
theorem H2.pushA (h : H2 w0 w pa pb Fa Fb ma mb) {a b c d r : Int} (hE : pushM 1024 ma (a, b, c, d) = (r, m')) :
    Calls Try.prog 18 #[.pointer (some ⟨pa, 0, none⟩), .agg #[.int .i64 a, .int .i64 b, .int .i64 c, .int .i64 d]] w fun e w' => e = .returned (.int .i64 r) ∧ ∃ Fa', H2 w0 w' pa pb Fa' Fb m' mb :=
  (h.a.push hE).mono fun _ _ ⟨he, F', hW, hF, hf⟩ => ⟨he, F', h.turn hW hF hf⟩
theorem H2.pushB (h : H2 w0 w pa pb Fa Fb ma mb) {a b c d r : Int} (hE : pushM 1024 mb (a, b, c, d) = (r, m')) :
    Calls Try.prog 18 #[.pointer (some ⟨pb, 0, none⟩), .agg #[.int .i64 a, .int .i64 b, .int .i64 c, .int .i64 d]] w fun e w' => e = .returned (.int .i64 r) ∧ ∃ Fb', H2 w0 w' pa pb Fa Fb' ma m' :=
  (h.swap.pushA hE).mono fun _ _ ⟨he, F', hW⟩ => ⟨he, F', hW.swap⟩
theorem H2.changeA (h : H2 w0 w pa pb Fa Fb ma mb) {a b c d : Int} {r : Bool} (hr : (ma.any fun x => x.2.2.2 == d) = r) (hE : chgM ma (a, b, c, d) = m') :
    Calls Try.prog 21 #[.pointer (some ⟨pa, 0, none⟩), .agg #[.int .i64 a, .int .i64 b, .int .i64 c, .int .i64 d]] w fun e w' => e = .returned (.bool r) ∧ H2 w0 w' pa pb Fa Fb m' mb ∧ Fr Fa w w' :=
  (h.a.change hr hE).mono fun _ _ ⟨he, hW, hf⟩ => ⟨he, h.turn hW (fun _ hk => .inl hk) hf, hf⟩
theorem H2.removeA (h : H2 w0 w pa pb Fa Fb ma mb) {d : Int} {r : Bool} (hr : (ma.any fun x => x.2.2.2 == d) = r) (hE : (ma.filter fun x => !(x.2.2.2 == d)) = m') :
    Calls Try.prog 23 #[.pointer (some ⟨pa, 0, none⟩), .int .i64 d] w fun e w' => e = .returned (.bool r) ∧ H2 w0 w' pa pb Fa Fb m' mb ∧ Fr Fa w w' :=
  (h.a.remove hr hE).mono fun _ _ ⟨he, hW, hf⟩ => ⟨he, h.turn hW (fun _ hk => .inl hk) hf, hf⟩
theorem H2.removeB (h : H2 w0 w pa pb Fa Fb ma mb) {d : Int} {r : Bool} (hr : (mb.any fun x => x.2.2.2 == d) = r) (hE : (mb.filter fun x => !(x.2.2.2 == d)) = m') :
    Calls Try.prog 23 #[.pointer (some ⟨pb, 0, none⟩), .int .i64 d] w fun e w' => e = .returned (.bool r) ∧ H2 w0 w' pa pb Fa Fb ma m' ∧ Fr Fb w w' :=
  (h.swap.removeA hr hE).mono fun _ _ ⟨he, hW, hf⟩ => ⟨he, hW.swap, hf⟩
theorem H2.popA (h : H2 w0 w pa pb Fa Fb ma mb) :
    Calls Try.prog 26 #[.pointer (some ⟨pa, 0, none⟩)] w fun e w' => e = .returned (.tuple #[qv (peekM ma).1, .bool (peekM ma).2]) ∧ H2 w0 w' pa pb Fa Fb ma.tail mb ∧ Fr Fa w w' :=
  h.a.pop.mono fun _ _ ⟨he, hW, hf⟩ => ⟨he, h.turn hW (fun _ hk => .inl hk) hf, hf⟩
theorem H2.popB (h : H2 w0 w pa pb Fa Fb ma mb) :
    Calls Try.prog 26 #[.pointer (some ⟨pb, 0, none⟩)] w fun e w' => e = .returned (.tuple #[qv (peekM mb).1, .bool (peekM mb).2]) ∧ H2 w0 w' pa pb Fa Fb ma mb.tail ∧ Fr Fb w w' :=
  h.swap.popA.mono fun _ _ ⟨he, hW, hf⟩ => ⟨he, hW.swap, hf⟩
end

/-- A row of keys that is neither heap's. -/
structure Apr (w : World) (Fa Fb : Nat → Prop) (v : Value) (l : List Q) : Prop where
  own : w.ownsRow 0 23 4 v l.length (l.flatMap qc)
  fa : ∀ g, v.ownBlock = some g → ¬ Fa g ∧ ¬ Fb g
theorem Apr.keepA {w w' : World} {Fa Fb : Nat → Prop} {v : Value} {l : List Q} (h : Apr w Fa Fb v l) (hf : Fr Fa w w') : Apr w' Fa Fb v l := ⟨ownsRow_keep h.own fun k hk => hf.block k (ownsRow_lt h.own k hk) (h.fa k hk).1, h.fa⟩
theorem Apr.keepB {w w' : World} {Fa Fb : Nat → Prop} {v : Value} {l : List Q} (h : Apr w Fa Fb v l) (hf : Fr Fb w w') : Apr w' Fa Fb v l := ⟨ownsRow_keep h.own fun k hk => hf.block k (ownsRow_lt h.own k hk) (h.fa k hk).2, h.fa⟩
theorem Apr.below {w w' : World} {Fa Fb : Nat → Prop} {v : Value} {l : List Q} (h : Apr w Fa Fb v l) (hb : Below w.heap.size w w') : Apr w' Fa Fb v l := ⟨ownsRow_keep h.own fun k hk => hb.block k (ownsRow_lt h.own k hk), h.fa⟩

theorem H2.sortA {pa pb : Nat} {Fa Fb : Nat → Prop} {ma mb : List Q} {w0 w : World} (h : H2 w0 w pa pb Fa Fb ma mb) :
    Calls Try.prog 19 #[.pointer (some ⟨pa, 0, none⟩)] w fun e w' => ∃ (a : Option Addr) (c : Nat), e = .returned (.slice a ma.length c) ∧ Apr w' Fa Fb (.slice a ma.length c) ma ∧ H2 w0 w' pa pb Fa Fb ma mb ∧ Below w.heap.size w w' := by
  refine (sorted_m h.a.a).mono ?_
  rintro e w' ⟨a, c, rfl, hown, hb⟩
  exact ⟨a, c, rfl, ⟨ownsRow_base hown (Nat.zero_le _), fun g hg => ⟨fun hk => by have := (h.a.a.flt g hk).1; have := ownsRow_block hown g hg; omega, fun hk => by have := (h.b.a.flt g hk).1; have := ownsRow_block hown g hg; omega⟩⟩, h.below hb, hb⟩
theorem H2.sortB {pa pb : Nat} {Fa Fb : Nat → Prop} {ma mb : List Q} {w0 w : World} (h : H2 w0 w pa pb Fa Fb ma mb) :
    Calls Try.prog 19 #[.pointer (some ⟨pb, 0, none⟩)] w fun e w' => ∃ (a : Option Addr) (c : Nat), e = .returned (.slice a mb.length c) ∧ Apr w' Fa Fb (.slice a mb.length c) mb ∧ H2 w0 w' pa pb Fa Fb ma mb ∧ Below w.heap.size w w' := by
  refine h.swap.sortA.mono ?_
  rintro e w' ⟨a, c, he, hown, hW, hb⟩
  exact ⟨a, c, he, ⟨hown.own, fun g hg => (hown.fa g hg).symm⟩, hW.swap, hb⟩

theorem same_apr {w : World} {Fa Fb : Nat → Prop} {a b : Option Addr} {ca cb : Nat} {l : List Q} (ha : Apr w Fa Fb (.slice a l.length ca) l) (hb : Apr w Fa Fb (.slice b l.length cb) l) (hl : l.length ≤ 1024) :
    Calls Try.prog 20 #[.slice a l.length ca, .slice b l.length cb] w fun e w' => e = .returned (.bool true) ∧ Below w.heap.size w w' :=
  same_any w.heap.size a b l.length ca cb l w (qs_of_own ha.own rfl) (qs_of_own hb.own rfl) (Nat.le_refl _) (by omega)

theorem H2.new {w0 w : World} (hb : Below w0.heap.size w0 w) :
    Calls Try.prog 17 #[.int .i64 1024] w fun e w1 => ∃ pa Fa, e = .returned (.tuple #[.pointer (some ⟨pa, 0, none⟩), .int .i64 0]) ∧
      Calls Try.prog 17 #[.int .i64 1024] w1 fun e w2 => ∃ pb Fb, e = .returned (.tuple #[.pointer (some ⟨pb, 0, none⟩), .int .i64 0]) ∧ H2 w0 w2 pa pb Fa Fb [] [] := by
  refine (HO.new hb 1024 (by omega) (by omega)).mono ?_
  rintro e w1 ⟨pa, Fa, rfl, h1, _, _⟩
  refine ⟨pa, Fa, rfl, (HO.new h1.bel 1024 (by omega) (by omega)).mono ?_⟩
  rintro e w2 ⟨pb, Fb, rfl, h2, hF, hb2⟩
  exact ⟨pb, Fb, rfl, h1.below hb2, h2, fun k ha hk => by have := (h1.a.flt k ha).1; have := hF k hk; omega⟩

/-! plain -/
theorem pushM_some {room : Nat} {m : List Q} {k : Q} (h : (m.any fun x => x.2.2.2 == k.2.2.2) = true) : pushM room m k = (7, m) := by unfold pushM; rw [if_pos h]
theorem pushM_new {room : Nat} {m : List Q} {k : Q} (h : (m.any fun x => x.2.2.2 == k.2.2.2) = false) (hl : m.length < room) : pushM room m k = (0, insK k m) := by
  unfold pushM; rw [if_neg (by rw [h]; simp), if_neg (by omega)]
theorem srt_uniq {l m : List Q} (hp : l.Perm m) (hl : SrtK l) (hm : SrtK m) : l = m := srt_eqK hp (List.Pairwise.imp (fun h => totK.asym h) hl) hm
theorem not_any_mem {m : List Q} {x : Q} (h : (m.any fun y => y.2.2.2 == x.2.2.2) = false) : x ∉ m := fun hx => by
  have := List.any_eq_false.1 h x hx
  simp at this
theorem insK_filter {m : List Q} {x : Q} (h : SrtK m) (hx : x ∉ m) (p : Q → Bool) : (insK x m).filter p = if p x = true then insK x (m.filter p) else m.filter p := by
  have hxf : x ∉ m.filter p := fun hc => hx (List.mem_filter.1 hc).1
  have hp := (insK_perm x m).filter p
  split
  · rename_i e
    rw [List.filter_cons_of_pos e] at hp
    exact srt_uniq (hp.trans (insK_perm _ _).symm) (srtK_filter (insK_srt h hx) p) (insK_srt (srtK_filter h p) hxf)
  · rename_i e
    rw [List.filter_cons_of_neg (by simpa using e)] at hp
    exact srt_uniq hp (srtK_filter (insK_srt h hx) p) (srtK_filter h p)
theorem insK_any (m : List Q) (x : Q) (p : Q → Bool) : (insK x m).any p = (p x || m.any p) := by
  rw [(insK_perm x m).any_eq, List.any_cons]
theorem insK_swap {m : List Q} {x y : Q} (h : SrtK m) (hx : x ∉ m) (hy : y ∉ m) (hxy : x ≠ y) : insK x (insK y m) = insK y (insK x m) := by
  have h1 : x ∉ insK y m := fun hc => by
    rcases List.mem_cons.1 ((insK_perm _ _).mem_iff.1 hc) with e | e
    · exact hxy e
    · exact hx e
  have h2 : y ∉ insK x m := fun hc => by
    rcases List.mem_cons.1 ((insK_perm _ _).mem_iff.1 hc) with e | e
    · exact hxy e.symm
    · exact hy e
  refine srt_uniq ?_ (insK_srt (insK_srt h hy) h1) (insK_srt (insK_srt h hx) h2)
  refine (insK_perm _ _).trans (((insK_perm _ _).cons x).trans ?_)
  refine (List.Perm.swap y x m).trans ?_
  exact (((insK_perm x m).cons y).symm).trans (insK_perm _ _).symm

/-- A key of the changed one's Id is pushed as it will be. -/
theorem chg_push_id {m : List Q} {x k : Q} (hs : SrtK m) (ha : (m.any fun y => y.2.2.2 == x.2.2.2) = false) (hl : m.length < 1024) (he : x.2.2.2 = k.2.2.2) :
    pushM 1024 (chgM m k) k = (0, chgM (insK x m) k) := by
  have hx := not_any_mem ha
  rw [he] at ha
  have e1 : chgM m k = m := by unfold chgM; rw [ha, if_neg (by simp)]
  rw [e1, pushM_new ha hl]
  unfold chgM
  rw [insK_any, insK_filter hs hx]
  have e2 : (x.2.2.2 == k.2.2.2) = true := by simp [he]
  rw [e2, filter_noneK ha]
  rfl
theorem chg_push_other {m : List Q} {x k : Q} (hs : SrtK m) (ha : (m.any fun y => y.2.2.2 == x.2.2.2) = false) (hl : m.length < 1024) (he : ¬ x.2.2.2 = k.2.2.2) :
    pushM 1024 (chgM m k) x = (0, chgM (insK x m) k) := by
  have hx := not_any_mem ha
  have hxk : x ≠ k := fun e => he (by rw [e])
  have hany : ((chgM m k).any fun y => y.2.2.2 == x.2.2.2) = false := by
    refine List.any_eq_false.2 fun y hy => ?_
    unfold chgM at hy
    split at hy
    · rcases List.mem_cons.1 ((insK_perm _ _).mem_iff.1 hy) with rfl | hy
      · simpa using fun e => he e.symm
      · exact List.any_eq_false.1 ha y (List.mem_filter.1 hy).1
    · exact List.any_eq_false.1 ha y hy
  rw [pushM_new hany (Nat.lt_of_le_of_lt (chgM_len m k) hl)]
  congr 1
  unfold chgM
  rw [insK_any, insK_filter hs hx]
  have e2 : (x.2.2.2 == k.2.2.2) = false := by simpa using he
  rw [e2, Bool.false_or]
  split
  · rw [if_pos (by rfl)]
    have hkf : k ∉ m.filter fun y => !(y.2.2.2 == k.2.2.2) := fun hc => by
      have := (List.mem_filter.1 hc).2
      simp at this
    exact insK_swap (srtK_filter hs _) (fun hc => hx (List.mem_filter.1 hc).1) hkf hxk
  · rfl
theorem filter_one {m : List Q} (h : (m.map (·.2.2.2)).Nodup) (id : Int) : m.length ≤ (m.filter fun x => !(x.2.2.2 == id)).length + 1 := by
  induction m with
  | nil => simp
  | cons x m ih =>
    simp only [List.map_cons, List.nodup_cons] at h
    by_cases e : x.2.2.2 = id
    · rw [List.filter_cons_of_neg (by simp [e]), List.filter_eq_self.2]
      · simp
      · intro y hy
        have : y.2.2.2 ≠ id := fun e' => h.1 (List.mem_map.2 ⟨y, hy, e'.trans e.symm⟩)
        simpa using this
    · rw [List.filter_cons_of_pos (by simpa using e), List.length_cons, List.length_cons]
      have := ih h.2
      omega
end Go.Proofs.Ytaogdgbijjjpjaa
