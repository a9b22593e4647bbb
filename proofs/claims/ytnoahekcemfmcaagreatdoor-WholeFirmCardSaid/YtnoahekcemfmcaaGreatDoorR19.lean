/- A part of the walk: HeapR HM Sched4. -/
import Derived.Test.YtnoahekcemfmcaaGreatDoorR18
import Derived.Test.YtnoahekcemfmcaaGreatDoorR03
namespace Go.Proofs.YtnoahekcemfmcaaGreatDoor
set_option linter.unusedVariables false
set_option linter.unusedSimpArgs false
set_option maxHeartbeats 80000000
set_option maxRecDepth 100000
section
open Go.RowKit
def SrtK (l:List Q):Prop:=l.Pairwise fun x y=>ltK x y = true
theorem srtK_filter {m:List Q} (h:SrtK m) (p:Q → Bool):SrtK (m.filter p):=List.Pairwise.filter p h
def insK (d:Q) (m:List Q):List Q:=m.takeWhile (fun x=>ltK x d) ++ d :: m.dropWhile fun x=>ltK x d
theorem insK_perm (d:Q) (m:List Q):(insK d m).Perm (d :: m):=by
 unfold insK
 refine (List.perm_middle).trans ?_
 rw [List.takeWhile_append_dropWhile]
theorem insK_srt {d:Q} {m:List Q} (h:SrtK m) (hd:d ∉ m):SrtK (insK d m):=by
 unfold SrtK insK
 have h':SrtK (m.takeWhile (fun x=>ltK x d) ++ m.dropWhile fun x=>ltK x d):=by rw [List.takeWhile_append_dropWhile];exact h
 obtain ⟨h1,h2,h3⟩:=List.pairwise_append.1 h'
 rw [List.pairwise_append]
 refine ⟨h1,?_,?_⟩
 ·rw [List.pairwise_cons]
  refine ⟨fun y hy=>?_,h2⟩
  cases hdw:m.dropWhile fun x=>ltK x d with
  | nil=>rw [hdw] at hy;simp at hy
  | cons z zs =>
   have hz:ltK z d = false:=by
    have:=List.head?_dropWhile_not (fun x=>ltK x d) m
    rw [hdw] at this
    simpa using this
   have hzd:ltK d z = true:=by
    cases hc:ltK d z
    ·have:=totK.tri _ _ hz hc
     exact absurd ((List.dropWhile_sublist (fun x=>ltK x d)).subset (by rw [hdw,this];exact List.mem_cons_self)) hd
    ·rfl
   rw [hdw] at hy h2
   rcases List.mem_cons.1 hy with rfl | hy
   ·exact hzd
   ·exact totK.tr _ _ _ hzd ((List.pairwise_cons.1 h2).1 y hy)
 ·intro x hx y hy
  have hxd:ltK x d = true:=by
   have:=List.all_eq_true.1 (List.all_takeWhile (l:=m) (p:=fun x=>ltK x d)) x hx
   simpa using this
  rcases List.mem_cons.1 hy with rfl | hy
  ·exact hxd
  ·exact h3 x hx y hy
structure HRep (l m:List Q):Prop where
 hp:IsHp ltK l
 perm:l.Perm m
 srt:SrtK m
 ids:(m.map (·.2.2.2)).Nodup
theorem HRep.len {l m:List Q} (h:HRep l m):l.length = m.length:=h.perm.length_eq
theorem HRep.nil:HRep [] []:=⟨fun k h0 h1=>by simp at h1,List.Perm.refl _,List.Pairwise.nil,List.nodup_nil⟩
theorem HRep.idx {l m:List Q} (h:HRep l m) {id r:Int} (hr:Idx (fun x=>x.2.2.2 == id) l r):decide (0 ≤ r) = m.any fun x=>x.2.2.2 == id:=by
 rw [hr.any];exact h.perm.any_eq
theorem HRep.nod {l m:List Q} (h:HRep l m):(l.map (·.2.2.2)).Nodup:=((h.perm.map (·.2.2.2)).nodup_iff).2 h.ids
def peekM (m:List Q):Q × Bool:=match m with | []=>((0,0,0,0),false) | x :: _=>(x,true)
theorem HRep.head {x:Q} {l m:List Q} (h:HRep (x :: l) m):∃ m',m = x :: m':=by
 have hx:x ∈ m:=h.perm.mem_iff.1 List.mem_cons_self
 cases m with
 | nil=>simp at hx
 | cons y m' =>
  refine ⟨m',?_⟩
  have hy:y ∈ x :: l:=h.perm.mem_iff.2 List.mem_cons_self
  obtain ⟨k,hk,e⟩:=List.mem_iff_getElem.1 hy
  have h1:=root_least totK (x :: l) h.hp k hk
  rw [at_eq _ _ hk,e] at h1
  have h0:at' (x :: l) 0 = x:=rfl
  rw [h0] at h1
  rcases List.mem_cons.1 hx with rfl | hx
  ·rfl
  ·have:=(List.pairwise_cons.1 h.srt).1 x hx
   rw [this] at h1;cases h1
theorem HRep.peek {l m:List Q} (h:HRep l m):peekL l = peekM m:=by
 cases l with
 | nil=>rw [List.nil_perm.1 h.perm];rfl
 | cons x l=>obtain ⟨m',rfl⟩:=h.head;rfl
theorem HRep.pop {l m:List Q} (h:HRep l m):(popL l).1 = (peekM m).1 ∧ (popL l).2.1 = (peekM m).2 ∧ HRep (popL l).2.2 m.tail:=by
 cases l with
 | nil =>
  have:=List.nil_perm.1 h.perm
  subst this
  exact ⟨rfl,rfl,HRep.nil⟩
 | cons x l =>
  obtain ⟨m',rfl⟩:=h.head
  obtain ⟨a,b⟩:=out_heap totK (x :: l) 0 (by simp) h.hp
  refine ⟨rfl,rfl,a,?_,(List.pairwise_cons.1 h.srt).2,by have:=h.ids;simp only [List.map_cons,List.nodup_cons] at this;exact this.2⟩
  have:=b.trans h.perm
  exact (List.perm_cons x).1 this
theorem filter_ne_of {l R:List Q} {x:Q} (hp:(x :: R).Perm l) (hn:(l.map (·.2.2.2)).Nodup):R.Perm (l.filter fun y=>!(y.2.2.2 == x.2.2.2)):=by
 have h1:=hp.filter fun y=>!(y.2.2.2 == x.2.2.2)
 rw [List.filter_cons_of_neg (by simp)] at h1
 have h2:=((hp.map (·.2.2.2)).nodup_iff).2 hn
 simp only [List.map_cons,List.nodup_cons] at h2
 rw [List.filter_eq_self.2] at h1
 ·exact h1
 ·intro y hy
  have:y.2.2.2 ≠ x.2.2.2:=fun e=>h2.1 (List.mem_map.2 ⟨y,hy,e⟩)
  simpa using this
theorem filter_noneK {m:List Q} {id:Int} (h:(m.any fun d=>d.2.2.2 == id) = false):(m.filter fun d=>!(d.2.2.2 == id)) = m :=
 List.filter_eq_self.2 fun d hd=>by simpa using List.any_eq_false.1 h d hd
theorem HRep.nodF {l m:List Q} (h:HRep l m) (p:Q → Bool):((m.filter p).map (·.2.2.2)).Nodup:=(List.Sublist.map _ List.filter_sublist).nodup h.ids
theorem HRep.rem {l m:List Q} (h:HRep l m) {id r:Int} (hr:Idx (fun x=>x.2.2.2 == id) l r):HRep (remL l r) (m.filter fun x=>!(x.2.2.2 == id)):=by
 have hi:=h.idx hr
 rcases hr with ⟨rfl,hno⟩ | ⟨q,hq,rfl,hid,_⟩
 ·have:(m.any fun x=>x.2.2.2 == id) = false:=by rw [← hi];rfl
  rw [filter_noneK this]
  exact h
 ·have hid':l[q].2.2.2 = id:=by simpa using hid
  obtain ⟨a,b⟩:=out_heap totK l q hq h.hp
  rw [at_eq l q hq] at b
  have e:remL l (q:Int) = outL ltK l q:=by unfold remL;rw [if_pos (by omega)];simp
  rw [e]
  refine ⟨a,?_,srtK_filter h.srt _,h.nodF _⟩
  have:=filter_ne_of b h.nod
  rw [hid'] at this
  exact this.trans (h.perm.filter _)
theorem set_perm (l:List Q) (q:Nat) (k:Q) (h:q < l.length):∃ R,(l[q] :: R).Perm l ∧ (l.set q k).Perm (k :: R):=by
 refine ⟨l.take q ++ l.drop (q + 1),?_,?_⟩
 ·have e:l.take q ++ l[q] :: l.drop (q + 1) = l:=by rw [List.getElem_cons_drop,List.take_append_drop]
  have:=(List.perm_middle (a:=l[q]) (l₁:=l.take q) (l₂:=l.drop (q + 1)))
  rw [e] at this
  exact this.symm
 ·rw [List.set_eq_take_append_cons_drop,if_pos h]
  exact List.perm_middle
theorem HRep.chg {l m:List Q} (h:HRep l m) {r:Int} {k:Q} (hr:Idx (fun x=>x.2.2.2 == k.2.2.2) l r) :
  HRep (chgL l r k) (if (m.any fun x=>x.2.2.2 == k.2.2.2) = true then insK k (m.filter fun x=>!(x.2.2.2 == k.2.2.2)) else m):=by
 have hi:=h.idx hr
 rcases hr with ⟨rfl,hno⟩ | ⟨q,hq,rfl,hid,_⟩
 ·have:(m.any fun x=>x.2.2.2 == k.2.2.2) = false:=by rw [← hi];rfl
  rw [this,if_neg (by simp)]
  exact h
 ·have hid':l[q].2.2.2 = k.2.2.2:=by simpa using hid
  have:(m.any fun x=>x.2.2.2 == k.2.2.2) = true:=by rw [← hi];simp
  rw [this,if_pos rfl]
  obtain ⟨a,b⟩:=change_heap totK l q k hq h.hp
  have e:chgL l (q:Int) k = upL ltK (downL ltK (l.set q k) q) q:=by unfold chgL;rw [if_pos (by omega)];simp
  rw [e]
  obtain ⟨R,hR1,hR2⟩:=set_perm l q k hq
  have hR3:=filter_ne_of hR1 h.nod
  rw [hid'] at hR3
  have hR4:=hR3.trans (h.perm.filter fun y=>!(y.2.2.2 == k.2.2.2))
  have hnot:k ∉ m.filter fun y=>!(y.2.2.2 == k.2.2.2):=fun hc=>by
   have:=(List.mem_filter.1 hc).2
   simp at this
  refine ⟨a,(b.trans hR2).trans ((hR4.cons k).trans (insK_perm _ _).symm),insK_srt (srtK_filter h.srt _) hnot,?_⟩
  have:=((insK_perm k (m.filter fun y=>!(y.2.2.2 == k.2.2.2))).map (·.2.2.2)).nodup_iff
  rw [this]
  simp only [List.map_cons,List.nodup_cons]
  refine ⟨fun hc=>?_,h.nodF _⟩
  obtain ⟨y,hy,e⟩:=List.mem_map.1 hc
  have:=(List.mem_filter.1 hy).2
  simp [e] at this
def pushM (room:Nat) (m:List Q) (k:Q):Int × List Q :=
 if (m.any fun x=>x.2.2.2 == k.2.2.2) = true then (7,m) else if m.length = room then (3,m) else (0,insK k m)
theorem HRep.push {l m:List Q} (h:HRep l m) {room:Nat} {r:Int} {k:Q} (hr:Idx (fun x=>x.2.2.2 == k.2.2.2) l r) (hlen:m.length ≤ room) :
  (pushL l room r k).1 = (pushM room m k).1 ∧ HRep (pushL l room r k).2 (pushM room m k).2 ∧ (pushM room m k).2.length ≤ room:=by
 have hi:=h.idx hr
 unfold pushL pushM
 by_cases h0:0 ≤ r
 ·rw [if_pos h0]
  rw [decide_eq_true h0] at hi
  rw [← hi,if_pos rfl]
  exact ⟨rfl,h,hlen⟩
 ·rw [if_neg h0]
  rw [decide_eq_false h0] at hi
  simp only [← hi,Bool.false_eq_true,if_false,h.len]
  by_cases hf:m.length = room
  ·rw [if_pos hf,if_pos hf];exact ⟨rfl,h,hlen⟩
  ·rw [if_neg hf,if_neg hf]
   obtain ⟨a,b⟩:=push_heap totK l k h.hp
   rw [h.len] at a b
   have hnot:k ∉ m:=fun hk=>by
    have:=List.any_eq_false.1 hi.symm k hk
    simp at this
   refine ⟨rfl,⟨a,?_,insK_srt h.srt hnot,?_⟩,by simp only [(insK_perm k m).length_eq,List.length_cons];omega⟩
   ·refine b.trans ((List.perm_append_comm).trans ?_)
    exact ((h.perm.cons k)).trans (insK_perm k m).symm
   ·rw [((insK_perm k m).map (·.2.2.2)).nodup_iff]
    simp only [List.map_cons,List.nodup_cons]
    refine ⟨fun hc=>?_,h.ids⟩
    obtain ⟨y,hy,e⟩:=List.mem_map.1 hc
    have:=List.any_eq_false.1 hi.symm y hy
    simp [e] at this
end
section
open Go.RowKit
def HH (B:Nat) (w:World) (p:Nat) (F:Nat → Prop) (room:Nat) (m:List Q):Prop:=∃ l,HA 166 B w p F l room ∧ HRep l m ∧ m.length ≤ room ∧ room ≤ 1024
section
variable {B p room:Nat} {F:Nat → Prop} {m:List Q} {w w':World}
theorem HH.keep {T:Nat → Prop} (h:HH B w p F room m) (hf:Fr T w w') (hT:∀ k,F k → ¬ T k):HH B w' p F room m:=by
 obtain ⟨l,h1,r⟩:=h
 exact ⟨l,h1.keep hf hT,r⟩
theorem HH.below (h:HH B w p F room m) (hb:Below w.heap.size w w'):HH B w' p F room m:=h.keep (Fr.of_below (S:=fun _=>False) hb) (by simp)
theorem HH.flt (h:HH B w p F room m) (k:Nat) (hk:F k):k < w.heap.size ∧ B ≤ k:=by obtain ⟨l,h1,r⟩:=h;exact h1.flt k hk
theorem HH.srt (h:HH B w p F room m):SrtK m:=by obtain ⟨l,h1,r,a,b⟩:=h;exact r.srt
theorem HH.ids (h:HH B w p F room m):(m.map (·.2.2.2)).Nodup:=by obtain ⟨l,h1,r,a,b⟩:=h;exact r.ids
theorem hnew_m (B room:Nat) (w:World) (h1:1 ≤ room) (h2:room ≤ 1024) (hB:B ≤ w.heap.size) :
  Calls Tryz.prog 37 #[.int .i64 room] w fun e w'=>(∃ p F,e = .returned (.tuple #[.pointer (some ⟨p,0,none⟩),.int .i64 0]) ∧ HH B w' p F room [] ∧ (∀ k,F k → w.heap.size ≤ k)) ∧ Below w.heap.size w w' :=
 (hnew_good B room w h1 h2 hB).mono fun _ _ ⟨⟨p,F,he,hW,hF⟩,hb⟩=>⟨⟨p,F,he,⟨_,hW,HRep.nil,Nat.zero_le _,h2⟩,hF⟩,hb⟩
theorem push_m (h:HH B w p F room m) (hB:B ≤ w.heap.size) (k:Q) :
  Calls Tryz.prog 67 #[.pointer (some ⟨p,0,none⟩),qv k] w fun e w'=>e = .returned (.int .i64 (pushM room m k).1) ∧ ∃ F',HH B w' p F' room (pushM room m k).2 ∧ (∀ j,F' j → F j ∨ w.heap.size ≤ j) ∧ Fr F w w':=by
 obtain ⟨l,hA,hR,hl,h2⟩:=h
 refine (push_any hA hB k (by rw [hR.len];omega)).mono ?_
 rintro e w' ⟨r,hr,rfl,F',hA',hF,hf⟩
 obtain ⟨a,b,c⟩:=hR.push hr hl
 exact ⟨by rw [a],F',⟨_,hA',b,c,h2⟩,hF,hf⟩
theorem peek_m (h:HH B w p F room m) :
  Calls Tryz.prog 70 #[.pointer (some ⟨p,0,none⟩)] w fun e w'=>e = .returned (.tuple #[qv (peekM m).1,.bool (peekM m).2]) ∧ Below w.heap.size w w':=by
 obtain ⟨l,hA,hR,hl,h2⟩:=h
 have:=peek_any hA
 rw [hR.peek] at this
 exact this
theorem remove_m (h:HH B w p F room m) (id:Int) :
  Calls Tryz.prog 94 #[.pointer (some ⟨p,0,none⟩),.int .i64 id] w fun e w'=>e = .returned (.bool (m.any fun x=>x.2.2.2 == id)) ∧ HH B w' p F room (m.filter fun x=>!(x.2.2.2 == id)) ∧ Fr F w w':=by
 obtain ⟨l,hA,hR,hl,h2⟩:=h
 refine (remove_any hA id (by rw [hR.len];omega)).mono ?_
 rintro e w' ⟨r,hr,rfl,hA',hf⟩
 exact ⟨by rw [hR.idx hr],⟨_,hA',hR.rem hr,Nat.le_trans (List.length_filter_le _ _) hl,h2⟩,hf⟩
theorem filter_two_len (p:Q → Bool) (m:List Q):(m.filter p).length + (m.filter fun d=>!p d).length = m.length:=by
 induction m with
 | nil=>rfl
 | cons x m ih=>by_cases h:p x = true <;> simp [h] <;> omega
def chgM (m:List Q) (k:Q):List Q:=if (m.any fun x=>x.2.2.2 == k.2.2.2) = true then insK k (m.filter fun x=>!(x.2.2.2 == k.2.2.2)) else m
theorem chgM_len (m:List Q) (k:Q):(chgM m k).length ≤ m.length:=by
 unfold chgM
 split
 ·rename_i h
  obtain ⟨d,hd,hp⟩:=List.any_eq_true.1 h
  rw [(insK_perm _ _).length_eq,List.length_cons]
  have h1:(m.filter fun x=>!(x.2.2.2 == k.2.2.2)).length + (m.filter fun x=>x.2.2.2 == k.2.2.2).length = m.length:=by
   have:=filter_two_len (fun x:Q=>x.2.2.2 == k.2.2.2) m
   omega
  have h2:0 < (m.filter fun x=>x.2.2.2 == k.2.2.2).length:=List.length_pos_of_mem (List.mem_filter.2 ⟨hd,hp⟩)
  omega
 ·omega
theorem change_m (h:HH B w p F room m) (k:Q) :
  Calls Tryz.prog 107 #[.pointer (some ⟨p,0,none⟩),qv k] w fun e w'=>e = .returned (.bool (m.any fun x=>x.2.2.2 == k.2.2.2)) ∧ HH B w' p F room (chgM m k) ∧ Fr F w w':=by
 obtain ⟨l,hA,hR,hl,h2⟩:=h
 refine (change_any hA k (by rw [hR.len];omega)).mono ?_
 rintro e w' ⟨r,hr,rfl,hA',hf⟩
 exact ⟨by rw [hR.idx hr],⟨_,hA',hR.chg hr,Nat.le_trans (chgM_len m k) hl,h2⟩,hf⟩
end
structure HO (w0 w:World) (p room:Nat) (F:Nat → Prop) (m:List Q):Prop where
 a:HH w0.heap.size w p F room m
 bel:Below w0.heap.size w0 w
section
variable {p room:Nat} {F:Nat → Prop} {m:List Q} {w0 w w':World}
end
end
section
inductive Ms (tk:Nat → Tk) (n:Nat) (R:Nat → Int) (calm:Prop) (s:St):St → List Ev → Prop
 | miss (k:Nat) (j:Jb) (hk:k < n) (hj:s.job k = some j) (hm:j.must = false):Ms tk n R calm s (gone s k false) [tell tk s 9 k j]
 | early (k:Nat) (hk:k < n):Ms tk n R calm s s [⟨(s.now:Int),2,(k:Int),s.cnt k,2⟩]
 | rel (k:Nat) (d:Int) (m:Bool) (hk:k < n) (hj:s.job k = none) (hm:m = false → (tk k).M ≤ cntT ((s.win k).drop 1)):Ms tk n R calm s (relS tk s k d m) [tell tk s 1 k (newJ tk s k d m)]
 | start (k:Nat) (j:Jb) (what:Int) (hk:k < n) (hw:what = 3 ∨ what = 4):Ms tk n R calm s s [tell tk s what k j]
 | last (v:Int):Ms tk n R calm s { s with last:=v } []
 | go (k:Nat) (j j':Jb) (hk:k < n) (hj:s.job k = some j) (e1:j'.no = j.no) (e2:j'.rel = j.rel) (e3:j'.must = j.must):Ms tk n R calm s { s with job:=upd s.job k (some j') } []
 | say (k:Nat) (j:Jb) (what:Int) (hk:k < n) (hw:what = 5 ∨ ¬ calm ∧ (what = 6 ∨ what = 7)):Ms tk n R calm s s [tell tk s what k j]
 | drop (k:Nat) (j:Jb) (hk:k < n) (hj:s.job k = some j) (hm:j.must = false) (hc:¬ calm):Ms tk n R calm s (gone s k false) [tell tk s 11 k j]
 | done (k:Nat) (j:Jb) (hk:k < n) (hj:s.job k = some j) (hm:j.must = true → (s.now:Int) + 1 - j.rel ≤ R k):Ms tk n R calm s (gone s k true) [tell tk s 8 k j]
 | time:Ms tk n R calm s { s with now:=s.now + 1 } []
inductive Mss (tk:Nat → Tk) (n:Nat) (R:Nat → Int) (calm:Prop) (s:St):St → List Ev → Prop
 | nil:Mss tk n R calm s s []
 | snoc {s1 s2:St} {e1 e2:List Ev} (h1:Mss tk n R calm s s1 e1) (h2:Ms tk n R calm s1 s2 e2):Mss tk n R calm s s2 (e1 ++ e2)
section
variable {tk:Nat → Tk} {n:Nat} {R ahead dear:Nat → Int} {b g:Int} {σ:Nat → Bool} {calm:Prop}
theorem Mss.one {s s':St} {e:List Ev} (h:Ms tk n R calm s s' e):Mss tk n R calm s s' e:=by
 have:=Mss.snoc (.nil) h
 simpa using this
theorem Mss.trans {s s1 s2:St} {e1 e2:List Ev} (h1:Mss tk n R calm s s1 e1) (h2:Mss tk n R calm s1 s2 e2):Mss tk n R calm s s2 (e1 ++ e2):=by
 induction h2 with
 | nil=>simpa using h1
 | snoc a c ih =>
  have:=Mss.snoc ih c
  rwa [List.append_assoc] at this
theorem Mss.then {s s1 s2:St} {e1:List Ev} (h1:Mss tk n R calm s s1 e1) (h2:Ms tk n R calm s1 s2 []):Mss tk n R calm s s2 e1:=by
 have:=Mss.snoc h1 h2
 simpa using this
theorem Mss.keeps {P:St → List Ev → Prop} {s s':St} {out ev:List Ev} (hP:∀ s s' out e,P s out → Ms tk n R calm s s' e → P s' (out ++ e)) (h:Mss tk n R calm s s' ev) (h0:P s out):P s' (out ++ ev):=by
 induction h with
 | nil=>simpa using h0
 | snoc a c ih =>
  have:=hP _ _ _ _ ih c
  rwa [List.append_assoc] at this
structure Good (tk:Nat → Tk) (n:Nat) (R ahead dear:Nat → Int) (σ:Nat → Bool) (calm:Prop) (x:Int) (s:St):Prop where
 inv:Inv tk n x s
 w1:∀ i,i < n → W1 tk n i (R i) (ahead i) (dear i) σ s
 w2:∀ i,i < n → W2 tk n i (R i) (ahead i) (dear i) σ s
 ov:∀ i j,i < n → s.job i = some j → j.over = false
 st:calm → ∀ i j,i < n → s.job i = some j → j.struck = false
theorem late_ms (s:St) (hm:∀ k j,k < n → s.job k = some j → j.must = true → (s.now:Int) < (j.rel:Int) + (tk k).D) (m:Nat) (hmn:m ≤ n):Mss tk n R calm s (lateTo tk s m).1 (lateTo tk s m).2:=by
 induction m with
 | zero=>exact .nil
 | succ m ih =>
  have ih:=ih (by omega)
  obtain ⟨hL,hr⟩:=late_to (tk:=tk) s m
  unfold lateTo
  cases e:(lateTo tk s m).1.job m with
  | none=>exact ih
  | some j =>
   simp only
   split
   ·rename_i hl
    have hj:s.job m = some j:=by rw [← hr m (Nat.le_refl _)];exact e
    refine .snoc ih (.miss m j (by omega) e ?_)
    cases h:j.must
    ·rfl
    ·have:=hm m j (by omega) hj h;omega
   ·exact ih
variable (A:∀ i,i < n → An tk n i b g (R i) (ahead i) (dear i))
include A
theorem Good.not_late {x:Int} {s:St} (h:Good tk n R ahead dear σ calm x s):∀ k j,k < n → s.job k = some j → j.must = true → (s.now:Int) < (j.rel:Int) + (tk k).D:=fun k j hk hj hm=>by
 have h1:=(h.w2 k hk).not_late (A k hk) hj hm
 have h2:=(A k hk).rd
 omega
omit A in
theorem Good.mid {s:St} (h:Good tk n R ahead dear σ calm 1 s):Good tk n R ahead dear σ calm 0 s :=
 ⟨⟨h.inv.ok,h.inv.op,h.inv.no,fun i hi=>by have:=h.inv.le i hi;omega,h.inv.c0⟩,h.w1,h.w2,h.ov,h.st⟩
theorem Good.late {x:Int} {s s':St} (h:Good tk n R ahead dear σ calm x s) (hl:Late tk n s s'):Good tk n R ahead dear σ calm x s':=by
 have hj:∀ k j,s'.job k = some j → s.job k = some j:=fun k j e=>by
  rcases hl.job k with h1 | ⟨h1,_⟩
  ·rw [← h1];exact e
  ·rw [h1] at e;cases e
 exact ⟨h.inv.late hl,fun i hi=>by
  obtain ⟨t0,c0,hw⟩:=h.w1 i hi
  exact ⟨t0,c0,hw.late (A i hi) h.inv hl⟩,fun i hi=>(h.w2 i hi).late (A i hi) h.inv hl,fun i j hi e=>h.ov i j hi (hj i j e),fun c i j hi e=>h.st c i j hi (hj i j e)⟩
theorem Good.rel1 {s s':St} {r:Int × Int} {ev:List Ev} (hok:∀ k,k < n → (tk k).Ok) (h:Good tk n R ahead dear σ calm 0 s) (hl:InTime tk n s) (hd:∀ k:Nat,k < n → r.1 = (k:Int) → r.2 ≤ (tk k).C) (hr:Rel1 tk n s r s' ev) :
  Good tk n R ahead dear σ calm 0 s' ∧ InTime tk n s' ∧ Mss tk n R calm s s' ev ∧ s'.now = s.now:=by
 cases hr with
 | none i d hi=>exact ⟨h,hl,.nil,rfl⟩
 | early i d hi ho=>exact ⟨h,hl,.one (.early i hi),rfl⟩
 | good i d m hi ho hm =>
  have hn:=h.inv.closed hl hok hi ho
  refine ⟨⟨h.inv.rel hok hi d m,fun k hk=>(h.w1 k hk).rel (A k hk) h.inv hl hi ho d m,fun k hk=>(h.w2 k hk).rel (A k hk) h.inv hl (h.w1 k hk) hi ho d m,fun k j hk e=>?_,fun c k j hk e=>?_⟩,hl.rel hok hi d m,.one (.rel i d m hi hn hm),rfl⟩
  ·by_cases hki:k = i
   ·subst hki
    have e:upd s.job k (some (newJ tk s k d m)) k = some j:=e
    rw [upd_self] at e;cases e
    have:=hd k hk rfl
    exact decide_eq_false (by simp only at this;omega)
   ·have e:upd s.job i (some (newJ tk s i d m)) k = some j:=e
    rw [upd_ne _ _ hki] at e
    exact h.ov k j hk e
  ·by_cases hki:k = i
   ·subst hki
    have e:upd s.job k (some (newJ tk s k d m)) k = some j:=e
    rw [upd_self] at e;cases e;rfl
   ·have e:upd s.job i (some (newJ tk s i d m)) k = some j:=e
    rw [upd_ne _ _ hki] at e
    exact h.st c k j hk e
theorem Good.rels {s s':St} {rs:List (Int × Int)} {ev:List Ev} (hok:∀ k,k < n → (tk k).Ok) (hr:Rels tk n s rs s' ev) (h:Good tk n R ahead dear σ calm 0 s) (hl:InTime tk n s) (hd:∀ r ∈ rs,∀ k:Nat,k < n → r.1 = (k:Int) → r.2 ≤ (tk k).C) :
  Good tk n R ahead dear σ calm 0 s' ∧ InTime tk n s' ∧ Mss tk n R calm s s' ev ∧ s'.now = s.now:=by
 induction hr with
 | nil=>exact ⟨h,hl,.nil,rfl⟩
 | cons h1 h2 ih =>
  obtain ⟨a1,a2,a3,a4⟩:=h.rel1 A hok hl (hd _ (List.mem_cons_self ..)) h1
  obtain ⟨b1,b2,b3,b4⟩:=ih a1 a2 (fun r hr=>hd r (List.mem_cons_of_mem _ hr))
  exact ⟨b1,b2,a3.trans b3,b4.trans a4⟩
theorem Good.run {s s':St} {ev:List Ev} (hok:∀ k,k < n → (tk k).Ok) (L:Legal σ b g) (hcalm:calm → ∀ t,σ t = false) (h:Good tk n R ahead dear σ calm 0 s) (hr:Run1 tk n s (σ s.now) s' ev) :
  Good tk n R ahead dear σ calm 1 { s' with now:=s'.now + 1 } ∧ Mss tk n R calm s { s' with now:=s'.now + 1 } ev:=by
 have hI:=h.inv.run hok hr
 have hw1:=fun i hi=>(h.w1 i hi).run (A i hi) L h.inv hr
 have hw2:=fun i hi=>(h.w2 i hi).run (A i hi) L h.inv hr
 obtain ⟨f1,f2,f3,hj⟩:=run_job hok h.inv hr
 refine ⟨⟨hI,hw1,hw2,fun i j hi e=>?_,fun c i j hi e=>?_⟩,?_⟩
 ·have e:s'.job i = some j:=e
  rcases hj with ⟨hn,e0⟩ | ⟨k,j0,ht,ho,hs⟩
  ·rw [e0,hn i hi] at e;cases e
  ·by_cases hki:i = k
   ·subst hki
    rcases hs with hs | ⟨hs,_⟩
    ·rw [hs] at e;cases e
    ·rw [hs] at e;cases e
     have:=(jstep_laws (hok i hi) (h.inv.ok i j0 hi ht.2.1) (σ s.now)).2.2.2.1
     rw [this];exact h.ov i j0 hi ht.2.1
   ·rw [ho i hki] at e
    exact h.ov i j hi e
 ·have e:s'.job i = some j:=e
  rcases hj with ⟨hn,e0⟩ | ⟨k,j0,ht,ho,hs⟩
  ·rw [e0,hn i hi] at e;cases e
  ·by_cases hki:i = k
   ·subst hki
    rcases hs with hs | ⟨hs,_,h2,_⟩
    ·rw [hs] at e;cases e
    ·rw [hs] at e;cases e
     have:=(rstep_laws (hok i hi) (h.inv.ok i j0 hi ht.2.1) (σ s.now)).2.2.2.2.2.2.2.2.2.2 (hcalm c _) (h.st c i j0 hi ht.2.1)
     rw [h2];exact this.1
   ·rw [ho i hki] at e
    exact h.st c i j hi e
 ·cases hr with
  | none hn=>exact Mss.then (.one (.last (-1))) .time
  | some k j ht =>
   obtain ⟨hk,hjb,hbf⟩:=ht
   have hjo:=h.inv.ok k j hk hjb
   have hov:=h.ov k j hk hjb
   obtain ⟨l0,l1,l2,l3,l4,l5,_,_,_,l6,l7⟩:=rstep_laws (hok k hk) hjo (σ s.now)
   have hstart:Mss tk n R calm s s (evStart tk s k j):=by
    unfold evStart
    split
    ·exact .one (.start k j 3 hk (.inl rfl))
    ·split
     ·exact .one (.start k j 4 hk (.inr rfl))
     ·exact .nil
   have hnl:=fun hm=>(h.w2 k hk).not_late (A k hk) hjb hm
   have e3:(jstep (tk k) j (σ s.now)).2 = (if ((rstep (tk k) j (σ s.now)).2 = 2 ∨ (rstep (tk k) j (σ s.now)).2 = 3) ∧ j.must = false then 2 else (rstep (tk k) j (σ s.now)).2):=by
    unfold jstep
    simp only
    rw [if_neg (fun c=>by rw [hov] at c;cases c.2)]
    split <;> rfl
   obtain ⟨m1,m2,m3,m4,_,_,m5⟩:=jstep_laws (hok k hk) hjo (σ s.now)
   have hgo:Mss tk n R calm s { s with job:=upd s.job k (some (jstep (tk k) j (σ s.now)).1),last:=(k:Int) } (evStart tk s k j) :=
    (hstart.then (.last (k:Int))).then (.go k j _ hk hjb m1 m2 m3)
   have hkj:({ s with job:=upd s.job k (some (jstep (tk k) j (σ s.now)).1),last:=(k:Int) }:St).job k = some (jstep (tk k) j (σ s.now)).1:=upd_self _ _ _
   have hcm:(jstep (tk k) j (σ s.now)).2 = 2 ∨ (jstep (tk k) j (σ s.now)).2 = 3 → ¬ calm:=fun hc c=>by
    obtain ⟨_,g2,g3⟩:=l7 (hcalm c _) (h.st c k j hk hjb)
    rw [e3] at hc
    split at hc
    ·rename_i d;rcases d.1 with d | d <;> contradiction
    ·rcases hc with hc | hc <;> contradiction
   refine Mss.then ?_ .time
   unfold runS
   simp only
   refine hgo.trans ?_
   unfold runOut
   rw [m4,m3]
   by_cases c1:(jstep (tk k) j (σ s.now)).2 = 1
   ·rw [if_pos c1]
    exact .one (.say k _ 5 hk (.inl rfl))
   ·rw [if_neg c1]
    by_cases c3:(jstep (tk k) j (σ s.now)).2 = 3
    ·rw [if_pos c3]
     exact .one (.say k _ 7 hk (.inr ⟨hcm (.inr c3),.inr rfl⟩))
    ·rw [if_neg c3]
     by_cases c2:(jstep (tk k) j (σ s.now)).2 = 2
     ·rw [if_pos c2,if_neg (fun c=>by rw [hov] at c;cases c.1)]
      cases hm:j.must
      ·rw [if_pos rfl]
       exact .one (.drop k _ hk hkj (m3.trans hm) (hcm (.inl c2)))
      ·rw [if_neg (by decide)]
       exact .one (.say k _ 6 hk (.inr ⟨hcm (.inl c2),.inl rfl⟩))
     ·rw [if_neg c2]
      by_cases c4:(jstep (tk k) j (σ s.now)).2 = 4
      ·rw [if_pos c4]
       refine .one (.done k _ hk hkj fun hm=>?_)
       have:=hnl (m3.symm.trans hm)
       rw [m2]
       show (s.now:Int) + 1 - _ ≤ _
       omega
      ·rw [if_neg c4]
       exact .nil
theorem Good.tick {s s':St} {rs:List (Int × Int)} {ev:List Ev} (hok:∀ k,k < n → (tk k).Ok) (L:Legal σ b g) (hcalm:calm → ∀ t,σ t = false) (h:Good tk n R ahead dear σ calm 1 s) (hd:∀ r ∈ rs,∀ k:Nat,k < n → r.1 = (k:Int) → r.2 ≤ (tk k).C)
  (ht:Tick1 tk n s rs (σ s.now) s' ev):Good tk n R ahead dear σ calm 1 s' ∧ Mss tk n R calm s s' ev ∧ s'.now = s.now + 1:=by
 cases ht with
 | @mk s2 s3 e2 e3 h2 h3 =>
  obtain ⟨hL,_⟩:=late_to (tk:=tk) s n
  have hm:=late_ms (R:=R) (calm:=calm) s (h.not_late A) n (Nat.le_refl _)
  have h1:=h.mid.late A hL
  have hin:InTime tk n (lateTo tk s n).1:=fun i j hi e=>by rw [hL.now];exact hL.late i j hi e
  obtain ⟨a1,a2,a3,a4⟩:=h1.rels A hok h2 hin hd
  have en:s2.now = s.now:=a4.trans hL.now
  rw [← en] at h3
  obtain ⟨b1,b2⟩:=a1.run A hok L hcalm h3
  obtain ⟨e1,_⟩:=run_job hok a1.inv h3
  exact ⟨b1,hm.trans (a3.trans b2),by show s3.now + 1 = _;rw [e1,en]⟩
theorem Good.ticks {s s':St} {l:List (List (Int × Int) × Bool)} {ev:List Ev} (hok:∀ k,k < n → (tk k).Ok) (L:Legal σ b g) (hcalm:calm → ∀ t,σ t = false) (ht:Ticks tk n s l s' ev) (h:Good tk n R ahead dear σ calm 1 s) (hd:∀ x ∈ l,∀ r ∈ x.1,∀ k:Nat,k < n → r.1 = (k:Int) → r.2 ≤ (tk k).C)
  (hs:∀ j (hj:j < l.length),l[j].2 = σ (s.now + j)):Good tk n R ahead dear σ calm 1 s' ∧ Mss tk n R calm s s' ev ∧ s'.now = s.now + l.length:=by
 induction ht with
 | nil=>exact ⟨h,.nil,rfl⟩
 | @snoc s1 s2 l x e1 e2 h1 h2 ih =>
  obtain ⟨a1,a2,a3⟩:=ih (fun y hy=>hd y (List.mem_append_left _ hy)) (fun j hj=>by
   have:=hs j (by rw [List.length_append];omega)
   rw [List.getElem_append_left hj] at this
   exact this)
  have hx:x.2 = σ s1.now:=by
   have:=hs l.length (by rw [List.length_append,List.length_singleton];omega)
   rw [List.getElem_append_right (Nat.le_refl _)] at this
   simp only [Nat.sub_self,List.getElem_cons_zero] at this
   rw [a3];exact this
  rw [hx] at h2
  obtain ⟨b1,b2,b3⟩:=a1.tick A hok L hcalm (hd x (List.mem_append_right _ (List.mem_singleton_self _))) h2
  exact ⟨b1,a2.trans b2,by rw [b3,a3,List.length_append,List.length_singleton];omega⟩
theorem Good.begin (hok:∀ k,k < n → (tk k).Ok):Good tk n R ahead dear σ calm 1 (St0 tk):=by
 have hI:Inv tk n 1 (St0 tk):=⟨fun i j _ e=>(by cases e),fun i j _ e=>(by cases e),fun i j _ e=>(by cases e),fun i hi=>by
  have h1:=(hok i hi).c1
  have h2:=(hok i hi).cd
  have h3:=(hok i hi).dt
  show (0:Int) ≤ ((0:Nat):Int) - 1 + _
  omega,fun i _=>Int.le_refl _⟩
 refine ⟨hI,fun i hi=>⟨0,fun _=>0,Nat.le_refl _,by have:=(A i hi).r1;show ((0:Nat):Int) - ((0:Nat):Int) < _;omega,fun k _=>⟨Int.le_refl _,fun c=>by have:(0:Int) < 0:=c;omega⟩,?_⟩,fun i hi J e=>(by cases e),fun i j _ e=>(by cases e),fun _ i j _ e=>(by cases e)⟩
 have e1:Phi tk n (hpE tk i) (St0 tk) = 0:=S_zero fun k _=>rfl
 have e2:sumW tk n i (fun k=>(St0 tk).cnt k - (fun _=>(0:Int)) k) = 0:=S_zero fun k _=>by
  have:(St0 tk).cnt k = 0:=rfl
  simp [this]
 rw [e1,e2]
 have:=(A i hi).a0
 show 0 + (((0:Nat):Int) - ((0:Nat):Int)) ≤ _ + 0 + 0 + dear i * (Fc σ 0 - Fc σ 0)
 rw [Int.sub_self,Int.sub_self,Int.mul_zero]
 omega
end
end
end Go.Proofs.YtnoahekcemfmcaaGreatDoor
