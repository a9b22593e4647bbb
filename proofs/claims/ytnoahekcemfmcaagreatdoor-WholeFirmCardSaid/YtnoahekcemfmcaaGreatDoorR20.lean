/- A part of the walk: Sched5 Sched6. -/
import Derived.Test.YtnoahekcemfmcaaGreatDoorR19
namespace Go.Proofs.YtnoahekcemfmcaaGreatDoor
set_option linter.unusedVariables false
set_option linter.unusedSimpArgs false
set_option maxHeartbeats 80000000
set_option maxRecDepth 100000
section
def isDel (e:Ev) (k no:Int):Bool:=decide (e.what = 8) && (decide (e.task = k) && decide (e.job = no))
theorem isDel_iff {e:Ev} {k no:Int}:isDel e k no = true ↔ e.what = 8 ∧ e.task = k ∧ e.job = no:=by unfold isDel;simp
def cntDel (l:List Ev) (k no:Int):Int:=((l.filter fun e=>isDel e k no).length:Int)
theorem cntDel_none {l:List Ev} {k no:Int} (h:∀ e ∈ l,isDel e k no = false):cntDel l k no = 0:=by
 unfold cntDel
 rw [List.filter_eq_nil_iff.2 fun e he=>by rw [h e he];simp];rfl
theorem cntDel_snoc (l:List Ev) (e:Ev) (k no:Int):cntDel (l ++ [e]) k no = cntDel l k no + if isDel e k no = true then 1 else 0:=by
 unfold cntDel
 rw [List.filter_append,List.length_append]
 cases h:isDel e k no <;> simp [h]
theorem split_snoc {α:Type} {out pre post:List α} {e x:α} (h:out ++ [e] = pre ++ x :: post):(∃ post',post = post' ++ [e] ∧ out = pre ++ x :: post') ∨ (post = [] ∧ x = e ∧ out = pre):=by
 rcases List.eq_nil_or_concat post with rfl | ⟨q,y,rfl⟩
 ·have:=List.append_inj' h rfl
  simp at this
  exact .inr ⟨rfl,this.2.symm,this.1⟩
 ·rw [List.concat_eq_append] at h ⊢
  have h':out ++ [e] = (pre ++ x :: q) ++ [y]:=by rw [h,List.append_assoc];rfl
  have:=List.append_inj' h' rfl
  simp at this
  exact .inl ⟨q,by rw [this.2],this.1⟩
theorem band_two {t:Tk} {j:Jb}:bandJ t j = 2 ↔ j.must = false:=by
 unfold bandJ
 cases j.must
 ·simp
 ·simp;split <;> omega
section
variable {tk:Nat → Tk} {n:Nat} {R:Nat → Int} {calm:Prop}
def Cur (R:Nat → Int) (s:St) (x:Ev) (k:Nat) (post:List Ev):Prop :=
 (∃ J,s.job k = some J ∧ J.no = x.job ∧ (J.rel:Int) = x.at_ ∧ (J.must = false ↔ x.band = 2) ∧ ∀ e ∈ post,isDel e k x.job = false) ∨
 (x.job < s.cnt k ∧ (∀ J,s.job k = some J → J.no ≠ x.job) ∧ (∀ e ∈ post,isDel e k x.job = true → (e.band = 2 ↔ x.band = 2) ∧ (x.band ≠ 2 → e.at_ + 1 ≤ x.at_ + R k)) ∧ (x.band ≠ 2 → cntDel post k x.job = 1))
structure TI (n:Nat) (R:Nat → Int) (s:St) (out:List Ev):Prop where
 nb:∀ k J,s.job k = some J → J.no < s.cnt k
 rl:∀ pre x post,out = pre ++ x :: post → x.what = 1 → ∃ k:Nat,k < n ∧ x.task = (k:Int) ∧ Cur R s x k post
theorem Cur.quiet {s s':St} {x:Ev} {k:Nat} {post:List Ev} (h:Cur R s x k post) (e:Ev) (he:e.what ≠ 8) (hc:s'.cnt = s.cnt)
  (hj:∀ J,s.job k = some J → J.no = x.job → ∃ J',s'.job k = some J' ∧ J'.no = J.no ∧ J'.rel = J.rel ∧ J'.must = J.must) (hj':∀ J',s'.job k = some J' → ∃ J,s.job k = some J ∧ J'.no = J.no):Cur R s' x k (post ++ [e]):=by
 have hd:∀ no,isDel e k no = false:=fun no=>by unfold isDel;simp [he]
 rcases h with ⟨J,h1,h2,h3,h4,h5⟩ | ⟨h1,h2,h3,h4⟩
 ·obtain ⟨J',g1,g2,g3,g4⟩:=hj J h1 h2
  exact .inl ⟨J',g1,g2.trans h2,by rw [g3];exact h3,by rw [g4];exact h4,fun y hy=>by
   rcases List.mem_append.1 hy with hy | hy
   ·exact h5 y hy
   ·rw [List.mem_singleton.1 hy];exact hd _⟩
 ·refine .inr ⟨by rw [hc];exact h1,fun J' g=>?_,fun y hy hd'=>?_,fun hx=>?_⟩
  ·obtain ⟨J,g1,g2⟩:=hj' J' g
   rw [g2];exact h2 J g1
  ·rcases List.mem_append.1 hy with hy | hy
   ·exact h3 y hy hd'
   ·rw [List.mem_singleton.1 hy,hd] at hd';cases hd'
  ·rw [cntDel_snoc,hd,h4 hx];rfl
theorem Cur.lost {s s':St} {x:Ev} {k:Nat} {post:List Ev} {j:Jb} (h:Cur R s x k post) (e:Ev) (he:e.what ≠ 8) (hc:s'.cnt = s.cnt) (hj:s.job k = some j) (hb:j.no < s.cnt k) (hm:j.must = false) (hn:s'.job k = none):Cur R s' x k (post ++ [e]):=by
 have hd:∀ no,isDel e k no = false:=fun no=>by unfold isDel;simp [he]
 rcases h with ⟨J,h1,h2,h3,h4,h5⟩ | ⟨h1,h2,h3,h4⟩
 ·rw [hj] at h1;cases h1
  refine .inr ⟨by rw [hc,← h2];exact hb,fun J' g=>(by rw [hn] at g;cases g),fun y hy hd'=>?_,fun hx=>absurd (h4.1 hm) hx⟩
  rcases List.mem_append.1 hy with hy | hy
  ·rw [h5 y hy] at hd';cases hd'
  ·rw [List.mem_singleton.1 hy,hd] at hd';cases hd'
 ·refine .inr ⟨by rw [hc];exact h1,fun J' g=>(by rw [hn] at g;cases g),fun y hy hd'=>?_,fun hx=>?_⟩
  ·rcases List.mem_append.1 hy with hy | hy
   ·exact h3 y hy hd'
   ·rw [List.mem_singleton.1 hy,hd] at hd';cases hd'
  ·rw [cntDel_snoc,hd,h4 hx];rfl
theorem Cur.done {s s':St} {x:Ev} {k:Nat} {post:List Ev} {j:Jb} {t:Tk} (h:Cur R s x k post) (hc:s'.cnt = s.cnt) (hj:s.job k = some j) (hb:j.no < s.cnt k) (hm:j.must = true → (s.now:Int) + 1 - j.rel ≤ R k) (hn:s'.job k = none)
  (e:Ev) (e1:e.job = j.no) (e2:e.at_ = s.now) (e3:e.band = bandJ t j) (e4:e.what = 8) (e5:e.task = (k:Int)):Cur R s' x k (post ++ [e]):=by
 rcases h with ⟨J,h1,h2,h3,h4,h5⟩ | ⟨h1,h2,h3,h4⟩
 ·rw [hj] at h1;cases h1
  have hd:isDel e k x.job = true:=isDel_iff.2 ⟨e4,e5,e1.trans h2⟩
  refine .inr ⟨by rw [hc,← h2];exact hb,fun J' g=>(by rw [hn] at g;cases g),fun y hy hd'=>?_,fun hx=>?_⟩
  ·rcases List.mem_append.1 hy with hy | hy
   ·rw [h5 y hy] at hd';cases hd'
   ·rw [List.mem_singleton.1 hy]
    refine ⟨by rw [e3,band_two];exact h4,fun hx=>?_⟩
    have:j.must = true:=by
     cases hm':j.must
     ·exact absurd (h4.1 hm') hx
     ·rfl
    have:=hm this
    omega
  ·rw [cntDel_snoc,cntDel_none h5,if_pos hd];rfl
 ·have hd:isDel e k x.job = false:=by
   cases g:isDel e k x.job
   ·rfl
   ·have:=(isDel_iff.1 g).2.2
    exact absurd (e1.symm.trans this) (h2 j hj)
  refine .inr ⟨by rw [hc];exact h1,fun J' g=>(by rw [hn] at g;cases g),fun y hy hd'=>?_,fun hx=>?_⟩
  ·rcases List.mem_append.1 hy with hy | hy
   ·exact h3 y hy hd'
   ·rw [List.mem_singleton.1 hy,hd] at hd';cases hd'
  ·rw [cntDel_snoc,hd,h4 hx];rfl
theorem Cur.other {s s':St} {x:Ev} {k:Nat} {post:List Ev} (h:Cur R s x k post) (e:Ev) (he:e.what = 8 → e.task ≠ (k:Int)) (hc:s'.cnt k = s.cnt k) (hj:s'.job k = s.job k):Cur R s' x k (post ++ [e]):=by
 have hd:∀ no,isDel e k no = false:=fun no=>by
  cases g:isDel e k no
  ·rfl
  ·have:=isDel_iff.1 g;exact absurd this.2.1 (he this.1)
 rcases h with ⟨J,h1,h2,h3,h4,h5⟩ | ⟨h1,h2,h3,h4⟩
 ·exact .inl ⟨J,by rw [hj];exact h1,h2,h3,h4,fun y hy=>by
   rcases List.mem_append.1 hy with hy | hy
   ·exact h5 y hy
   ·rw [List.mem_singleton.1 hy];exact hd _⟩
 ·refine .inr ⟨by rw [hc];exact h1,by rw [hj];exact h2,fun y hy hd'=>?_,fun hx=>?_⟩
  ·rcases List.mem_append.1 hy with hy | hy
   ·exact h3 y hy hd'
   ·rw [List.mem_singleton.1 hy,hd] at hd';cases hd'
  ·rw [cntDel_snoc,hd,h4 hx];rfl
theorem TI.still {s s':St} {out:List Ev} (h:TI n R s out) (hc:s'.cnt = s.cnt) (hj:∀ k J,s.job k = some J → ∃ J',s'.job k = some J' ∧ J'.no = J.no ∧ J'.rel = J.rel ∧ J'.must = J.must) (hj':∀ k J',s'.job k = some J' → ∃ J,s.job k = some J ∧ J'.no = J.no):TI n R s' out:=by
 refine ⟨fun k J' g=>?_,fun pre x post e hx=>?_⟩
 ·obtain ⟨J,g1,g2⟩:=hj' k J' g
  rw [g2,hc];exact h.nb k J g1
 ·obtain ⟨k,hk,ht,hcur⟩:=h.rl pre x post e hx
  refine ⟨k,hk,ht,?_⟩
  rcases hcur with ⟨J,h1,h2,h3,h4,h5⟩ | ⟨h1,h2,h3,h4⟩
  ·obtain ⟨J',g1,g2,g3,g4⟩:=hj k J h1
   exact .inl ⟨J',g1,g2.trans h2,by rw [g3];exact h3,by rw [g4];exact h4,h5⟩
  ·refine .inr ⟨by rw [hc];exact h1,fun J' g=>?_,h3,h4⟩
   obtain ⟨J,g1,g2⟩:=hj' k J' g
   rw [g2];exact h2 J g1
theorem TI.said {s:St} {out:List Ev} (h:TI n R s out) (e:Ev) (h1:e.what ≠ 1) (h8:e.what ≠ 8):TI n R s (out ++ [e]):=by
 refine ⟨h.nb,fun pre x post he hx=>?_⟩
 rcases split_snoc he with ⟨p,rfl,h3⟩ | ⟨rfl,rfl,h3⟩
 ·obtain ⟨k,hk,ht,hcur⟩:=h.rl pre x p h3 hx
  exact ⟨k,hk,ht,hcur.quiet e h8 rfl (fun J g _=>⟨J,g,rfl,rfl,rfl⟩) (fun J g=>⟨J,g,rfl⟩)⟩
 ·exact absurd hx h1
theorem gone_job {s:St} {k:Nat} {met:Bool}:(gone s k met).job k = none:=upd_self _ _ _
theorem gone_ne {s:St} {k l:Nat} {met:Bool} (h:l ≠ k):(gone s k met).job l = s.job l:=upd_ne _ _ h
theorem TI.lost {s:St} {out:List Ev} {k:Nat} {j:Jb} (h:TI n R s out) (e:Ev) (h1:e.what ≠ 1) (h8:e.what ≠ 8) (hj:s.job k = some j) (hm:j.must = false):TI n R (gone s k false) (out ++ [e]):=by
 refine ⟨fun l J g=>?_,fun pre x post he hx=>?_⟩
 ·by_cases hl:l = k
  ·subst hl;rw [gone_job] at g;cases g
  ·rw [gone_ne hl] at g;exact h.nb l J g
 ·rcases split_snoc he with ⟨p,rfl,h3⟩ | ⟨rfl,rfl,h3⟩
  ·obtain ⟨l,hl,ht,hcur⟩:=h.rl pre x p h3 hx
   refine ⟨l,hl,ht,?_⟩
   by_cases hlk:l = k
   ·subst hlk
    exact hcur.lost e h8 rfl hj (h.nb l j hj) hm gone_job
   ·exact hcur.other e (fun c=>absurd c h8) rfl (gone_ne hlk)
  ·exact absurd hx h1
theorem TI.done {s:St} {out:List Ev} {k:Nat} {j:Jb} (h:TI n R s out) (hj:s.job k = some j) (hm:j.must = true → (s.now:Int) + 1 - j.rel ≤ R k):TI n R (gone s k true) (out ++ [tell tk s 8 k j]):=by
 refine ⟨fun l J g=>?_,fun pre x post he hx=>?_⟩
 ·by_cases hl:l = k
  ·subst hl;rw [gone_job] at g;cases g
  ·rw [gone_ne hl] at g;exact h.nb l J g
 ·rcases split_snoc he with ⟨p,rfl,h3⟩ | ⟨rfl,rfl,h3⟩
  ·obtain ⟨l,hl,ht,hcur⟩:=h.rl pre x p h3 hx
   refine ⟨l,hl,ht,?_⟩
   by_cases hlk:l = k
   ·subst hlk
    exact hcur.done (s':=Go.Proofs.YtnoahekcemfmcaaGreatDoor.gone s l true) (t:=tk l) rfl hj (h.nb l j hj) hm gone_job _ rfl rfl rfl rfl rfl
   ·exact hcur.other _ (fun _ c=>hlk (by have:(k:Int) = (l:Int):=c;omega)) rfl (gone_ne hlk)
  ·have hx:(8:Int) = 1:=hx
   omega
theorem TI.rel {s:St} {out:List Ev} {k:Nat} {d:Int} {m:Bool} (h:TI n R s out) (hk:k < n) (hj:s.job k = none):TI n R (relS tk s k d m) (out ++ [tell tk s 1 k (newJ tk s k d m)]):=by
 have ej:(relS tk s k d m).job k = some (newJ tk s k d m):=upd_self _ _ _
 have ec:(relS tk s k d m).cnt k = s.cnt k + 1:=upd_self _ _ _
 refine ⟨fun l J g=>?_,fun pre x post he hx=>?_⟩
 ·by_cases hl:l = k
  ·subst hl;rw [ej] at g;cases g
   rw [ec]
   show s.cnt l < _
   omega
  ·have e1:(relS tk s k d m).job l = s.job l:=upd_ne _ _ hl
   have e2:(relS tk s k d m).cnt l = s.cnt l:=upd_ne _ _ hl
   rw [e1] at g;rw [e2];exact h.nb l J g
 ·rcases split_snoc he with ⟨p,rfl,h3⟩ | ⟨rfl,rfl,h3⟩
  ·obtain ⟨l,hl,ht,hcur⟩:=h.rl pre x p h3 hx
   refine ⟨l,hl,ht,?_⟩
   by_cases hlk:l = k
   ·subst hlk
    rcases hcur with ⟨J,h1,_⟩ | ⟨h1,h2,h4,h5⟩
    ·rw [hj] at h1;cases h1
    ·have hd:isDel (tell tk s 1 l (newJ tk s l d m)) l x.job = false:=by unfold isDel tell;simp
     refine .inr ⟨by rw [ec];omega,fun J' g=>?_,fun y hy hd'=>?_,fun hx=>?_⟩
     ·rw [ej] at g;cases g
      show s.cnt l ≠ _
      omega
     ·rcases List.mem_append.1 hy with hy | hy
      ·exact h4 y hy hd'
      ·rw [List.mem_singleton.1 hy,hd] at hd';cases hd'
     ·rw [cntDel_snoc,hd,h5 hx];rfl
   ·exact hcur.other _ (fun c=>by have:(1:Int) = 8:=c;omega) (upd_ne _ _ hlk) (upd_ne _ _ hlk)
  ·refine ⟨k,hk,rfl,.inl ⟨newJ tk s k d m,ej,rfl,rfl,band_two.symm,fun y hy=>by cases hy⟩⟩
theorem TI.step {s s':St} {out ev:List Ev} (h:TI n R s out) (hs:Ms tk n R calm s s' ev):TI n R s' (out ++ ev):=by
 cases hs with
 | miss k j hk hj hm=>exact h.lost _ (by show (9:Int) ≠ 1;decide) (by show (9:Int) ≠ 8;decide) hj hm
 | early k hk=>exact h.said _ (by show (2:Int) ≠ 1;decide) (by show (2:Int) ≠ 8;decide)
 | rel k d m hk hj hm=>exact h.rel hk hj
 | start k j what hk hw=>exact h.said _ (by show what ≠ 1;omega) (by show what ≠ 8;omega)
 | last v=>rw [List.append_nil];exact h.still rfl (fun k J g=>⟨J,g,rfl,rfl,rfl⟩) (fun k J g=>⟨J,g,rfl⟩)
 | go k j j' hk hj e1 e2 e3 =>
  rw [List.append_nil]
  refine h.still rfl (fun l J g=>?_) (fun l J' g=>?_)
  ·by_cases hl:l = k
   ·subst hl
    rw [hj] at g;cases g
    exact ⟨j',upd_self _ _ _,e1,e2,e3⟩
   ·exact ⟨J,(upd_ne _ _ hl).trans g,rfl,rfl,rfl⟩
  ·by_cases hl:l = k
   ·subst hl
    have g:upd s.job l (some j') l = some J':=g
    rw [upd_self] at g;cases g
    exact ⟨j,hj,e1⟩
   ·have g:upd s.job k (some j') l = some J':=g
    rw [upd_ne _ _ hl] at g
    exact ⟨J',g,rfl⟩
 | say k j what hk hw=>exact h.said _ (by show what ≠ 1;omega) (by show what ≠ 8;omega)
 | drop k j hk hj hm hc=>exact h.lost _ (by show (11:Int) ≠ 1;decide) (by show (11:Int) ≠ 8;decide) hj hm
 | done k j hk hj hm=>exact h.done hj hm
 | time=>rw [List.append_nil];exact h.still rfl (fun k J g=>⟨J,g,rfl,rfl,rfl⟩) (fun k J g=>⟨J,g,rfl⟩)
def MI (calm:Prop) (out:List Ev):Prop:=∀ e ∈ out,(e.what = 9 ∨ e.what = 10 → e.band = 2) ∧ (calm → e.what ≠ 6 ∧ e.what ≠ 7 ∧ e.what ≠ 11) ∧ e.what ≠ 10
theorem MI.snoc {out:List Ev} {e:Ev} (h:MI calm out) (he:(e.what = 9 ∨ e.what = 10 → e.band = 2) ∧ (calm → e.what ≠ 6 ∧ e.what ≠ 7 ∧ e.what ≠ 11) ∧ e.what ≠ 10):MI calm (out ++ [e]):=fun y hy=>by
 rcases List.mem_append.1 hy with hy | hy
 ·exact h y hy
 ·rw [List.mem_singleton.1 hy];exact he
theorem MI.step {s s':St} {out ev:List Ev} (h:MI calm out) (hs:Ms tk n R calm s s' ev):MI calm (out ++ ev):=by
 cases hs with
 | miss k j hk hj hm=>exact h.snoc ⟨fun _=>band_two.2 hm,fun _=>by unfold tell;simp,by unfold tell;simp⟩
 | early k hk=>exact h.snoc ⟨by simp,by simp,by simp⟩
 | rel k d m hk hj hm=>exact h.snoc ⟨by unfold tell;simp,by unfold tell;simp,by unfold tell;simp⟩
 | start k j what hk hw=>exact h.snoc ⟨by unfold tell;simp only;omega,fun _=>by unfold tell;simp only;omega,by unfold tell;simp only;omega⟩
 | last v=>rw [List.append_nil];exact h
 | go k j j' hk hj e1 e2 e3=>rw [List.append_nil];exact h
 | say k j what hk hw =>
  refine h.snoc ⟨by unfold tell;simp only;omega,fun c=>?_,by unfold tell;simp only;omega⟩
  unfold tell
  simp only
  rcases hw with hw | hw
  ·omega
  ·exact absurd c hw.1
 | drop k j hk hj hm hc=>exact h.snoc ⟨by unfold tell;simp,fun c=>absurd c hc,by unfold tell;simp⟩
 | done k j hk hj hm=>exact h.snoc ⟨by unfold tell;simp,by unfold tell;simp,by unfold tell;simp⟩
 | time=>rw [List.append_nil];exact h
def metE (k:Int) (e:Ev):Option Bool:=if e.task = k then (if e.what = 8 then some true else if e.what = 9 ∨ e.what = 10 ∨ e.what = 11 then some false else none) else none
def metL (out:List Ev) (k:Int):List Bool:=out.filterMap (metE k)
theorem metL_snoc (out:List Ev) (e:Ev) (k:Int):metL (out ++ [e]) k = metL out k ++ (match metE k e with | none=>[] | some b=>[b]):=by
 unfold metL
 rw [List.filterMap_append]
 cases h:metE k e <;> simp [h]
theorem cntT_append (a c:List Bool):cntT (a ++ c) = cntT a + cntT c:=by
 unfold cntT
 rw [List.filter_append,List.length_append]
 omega
theorem cntT_drop (l:List Bool):cntT l ≤ cntT (l.drop 1) + 1:=by
 cases l with
 | nil=>simp [cntT]
 | cons x l=>cases x <;> simp [cntT] <;> omega
structure FI1 (t:Tk) (w:List Bool) (m:List Bool) (opt:Prop):Prop where
 wn:w = (List.replicate t.K.toNat true ++ m).drop m.length
 all:∀ q,q ≤ m.length → t.M ≤ cntT (((List.replicate t.K.toNat true ++ m).drop q).take t.K.toNat)
 o:opt → t.M ≤ cntT (w.drop 1)
theorem cntT_rep (k:Nat):cntT (List.replicate k true) = k:=by
 unfold cntT
 induction k with
 | zero=>rfl
 | succ k ih =>
  rw [List.replicate_succ,List.filter_cons_of_pos rfl,List.length_cons]
  omega
theorem FI1.nil {t:Tk} (ht:t.Ok):FI1 t (List.replicate t.K.toNat true) [] False:=by
 have h1:=ht.f1
 have h2:=ht.f2
 refine ⟨by simp,fun q hq=>?_,fun h=>h.elim⟩
 have:q = 0:=by simpa using hq
 subst this
 simp only [List.append_nil,List.drop_zero]
 rw [List.take_of_length_le (by simp),cntT_rep]
 omega
theorem FI1.push {t:Tk} {w m:List Bool} {opt:Prop} (ht:t.Ok) (h:FI1 t w m opt) (b:Bool) (hb:b = false → opt):FI1 t (pushW w b) (m ++ [b]) False:=by
 have h1:=ht.f1
 have h2:=ht.f2
 obtain ⟨K,hK⟩:∃ K:Nat,t.K.toNat = K:=⟨_,rfl⟩
 have hK1:1 ≤ K:=by omega
 have hw:=h.wn
 have hall:=h.all
 rw [hK] at hw hall
 have hwl:w.length = K:=by rw [hw];simp
 have hw':pushW w b = (List.replicate K true ++ (m ++ [b])).drop (m ++ [b]).length:=by
  have hfl:m.length + 1 ≤ (List.replicate K true ++ m).length:=by simp;omega
  unfold pushW
  rw [hw,← List.append_assoc,List.length_append,List.length_singleton,List.drop_drop]
  generalize List.replicate K true ++ m = full at *
  rw [List.drop_append_of_le_length hfl]
 refine ⟨by rw [hK];exact hw',fun q hq=>?_,fun h=>h.elim⟩
 rw [hK]
 by_cases hqm:q ≤ m.length
 ·have hfl:q + K ≤ (List.replicate K true ++ m).length:=by simp;omega
  have:=hall q hqm
  rw [← List.append_assoc]
  generalize List.replicate K true ++ m = full at *
  rw [List.drop_append_of_le_length (by omega),List.take_append_of_le_length (by rw [List.length_drop];omega)]
  exact this
 ·have:q = (m ++ [b]).length:=by rw [List.length_append,List.length_singleton] at hq ⊢;omega
  subst this
  rw [← hw',List.take_of_length_le (by unfold pushW;simp;omega)]
  unfold pushW
  rw [cntT_append]
  cases b
  ·have h3:=h.o (hb rfl)
   have:cntT [false] = 0:=rfl
   omega
  ·have h3:=hall m.length (Nat.le_refl _)
   rw [← hw,List.take_of_length_le (by omega)] at h3
   have h4:=cntT_drop w
   have:cntT [true] = 1:=rfl
   omega
def FI (tk:Nat → Tk) (n:Nat) (s:St) (out:List Ev):Prop:=∀ k,k < n → FI1 (tk k) (s.win k) (metL out k) (∃ J,s.job k = some J ∧ J.must = false)
theorem FI1.opt {t:Tk} {w m:List Bool} {o o':Prop} (h:FI1 t w m o) (ho:o' → o):FI1 t w m o':=⟨h.wn,h.all,fun c=>h.o (ho c)⟩
theorem FI.gone {s:St} {out:List Ev} {k:Nat} {j:Jb} {b:Bool} {e:Ev} (hok:∀ k,k < n → (tk k).Ok) (h:FI tk n s out) (hk:k < n) (hj:s.job k = some j) (hm:b = false → j.must = false) (he:metE k e = some b) (het:e.task = (k:Int)):FI tk n (gone s k b) (out ++ [e]):=by
 intro l hl
 by_cases hlk:l = k
 ·subst hlk
  rw [metL_snoc,he]
  have e1:(Go.Proofs.YtnoahekcemfmcaaGreatDoor.gone s l b).win l = pushW (s.win l) b:=upd_self _ _ _
  rw [e1]
  refine ((h l hl).push (hok l hl) b (fun c=>⟨j,hj,hm c⟩)).opt ?_
  rintro ⟨J,g,_⟩
  rw [gone_job] at g;cases g
 ·have e1:(Go.Proofs.YtnoahekcemfmcaaGreatDoor.gone s k b).win l = s.win l:=upd_ne _ _ hlk
  have e2:metE l e = none:=by unfold metE;rw [if_neg (by rw [het];omega)]
  rw [metL_snoc,e2,e1,gone_ne hlk,List.append_nil]
  exact h l hl
theorem FI.said {s:St} {out:List Ev} (h:FI tk n s out) (e:Ev) (he:e.what ≠ 8 ∧ e.what ≠ 9 ∧ e.what ≠ 10 ∧ e.what ≠ 11):FI tk n s (out ++ [e]):=by
 intro l hl
 have e2:metE l e = none:=by
  unfold metE
  split
  ·rw [if_neg he.1,if_neg (by omega)]
  ·rfl
 rw [metL_snoc,e2,List.append_nil]
 exact h l hl
theorem FI.step (hok:∀ k,k < n → (tk k).Ok) {s s':St} {out ev:List Ev} (h:FI tk n s out) (hs:Ms tk n R calm s s' ev):FI tk n s' (out ++ ev):=by
 cases hs with
 | miss k j hk hj hm=>exact h.gone hok hk hj (fun _=>hm) (by unfold metE tell;simp) rfl
 | early k hk=>exact h.said _ (by simp)
 | rel k d m hk hj hm =>
  refine FI.said (fun l hl=>?_) _ (by unfold tell;simp)
  by_cases hlk:l = k
  ·subst hlk
   obtain ⟨h1,h2,h3⟩:=h l hl
   refine ⟨h1,h2,fun ⟨J,g,hJ⟩=>?_⟩
   have e1:(relS tk s l d m).job l = some (newJ tk s l d m):=upd_self _ _ _
   rw [e1] at g;cases g
   exact hm hJ
  ·have e1:(relS tk s k d m).job l = s.job l:=upd_ne _ _ hlk
   rw [e1]
   exact h l hl
 | start k j what hk hw=>exact h.said _ (by unfold tell;simp only;omega)
 | last v=>rw [List.append_nil];exact h
 | go k j j' hk hj e1 e2 e3 =>
  rw [List.append_nil]
  intro l hl
  refine (h l hl).opt ?_
  rintro ⟨J,g,hJ⟩
  by_cases hlk:l = k
  ·subst hlk
   have g:upd s.job l (some j') l = some J:=g
   rw [upd_self] at g;cases g
   exact ⟨j,hj,e3.symm.trans hJ⟩
  ·have g:upd s.job k (some j') l = some J:=g
   rw [upd_ne _ _ hlk] at g
   exact ⟨J,g,hJ⟩
 | say k j what hk hw=>exact h.said _ (by unfold tell;simp only;omega)
 | drop k j hk hj hm hc=>exact h.gone hok hk hj (fun _=>hm) (by unfold metE tell;simp) rfl
 | done k j hk hj hm=>exact h.gone hok hk hj (fun c=>by cases c) (by unfold metE tell;simp) rfl
 | time=>rw [List.append_nil];exact h
variable {ahead dear:Nat → Int} {b g:Int} {σ:Nat → Bool}
theorem whole_trace {l:List (List (Int × Int) × Bool)} {s:St} {ev:List Ev} (A:∀ i,i < n → An tk n i b g (R i) (ahead i) (dear i)) (hok:∀ k,k < n → (tk k).Ok) (L:Legal σ b g) (hcalm:calm → ∀ t,σ t = false)
  (ht:Ticks tk n (St0 tk) l s ev) (hd:∀ x ∈ l,∀ r ∈ x.1,∀ k:Nat,k < n → r.1 = (k:Int) → r.2 ≤ (tk k).C) (hs:∀ j (hj:j < l.length),l[j].2 = σ j) :
  Good tk n R ahead dear σ calm 1 s ∧ s.now = l.length ∧ TI n R s ev ∧ MI calm ev ∧ FI tk n s ev:=by
 obtain ⟨h1,h2,h3⟩:=(Good.begin A hok).ticks A hok L hcalm ht hd (fun j hj=>by rw [hs j hj];congr 1;show j = 0 + j;omega)
 have h0:TI n R (St0 tk) [] ∧ MI calm [] ∧ FI tk n (St0 tk) []:=by
  refine ⟨⟨fun k J g=>(by cases g),fun pre x post e=>?_⟩,fun e he=>(by cases he),fun k hk=>(FI1.nil (hok k hk)).opt ?_⟩
  ·have:=congrArg List.length e
   simp at this
  ·rintro ⟨J,g,_⟩;cases g
 have h4:=h2.keeps (P:=fun s out=>TI n R s out ∧ MI calm out ∧ FI tk n s out) (out:=[]) (fun s s' out e hp hm=>⟨hp.1.step hm,hp.2.1.step hm,hp.2.2.step hok hm⟩) h0
 rw [List.nil_append] at h4
 exact ⟨h1,by rw [h3];show 0 + _ = _;omega,h4.1,h4.2.1,h4.2.2⟩
theorem firm_one {t:Tk} {w m:List Bool} {o:Prop} (ht:t.Ok) (h:FI1 t w m o) (k:Nat) (h1:t.K ≤ k) (h2:k ≤ m.length):t.M ≤ cntT ((m.drop (k - t.K.toNat)).take t.K.toNat):=by
 have:=h.all k h2
 have hk:=ht.f1
 have hk2:=ht.f2
 rw [List.drop_append,List.drop_of_length_le (by simp;omega),List.nil_append,List.length_replicate] at this
 exact this
end
end
section
def mstep (b g first:Int) (t:Nat) (ask:Bool):Int × Bool :=
 if ask = true then
  if 0 ≤ first ∧ (t:Int) - first < b then (first,true)
  else if first < 0 ∨ g ≤ (t:Int) - first then ((t:Int),true) else (first,false)
 else (first,false)
def mfirst (b g:Int) (ask:Nat → Bool):Nat → Int
 | 0=>-1
 | t + 1=>(mstep b g (mfirst b g ask t) t (ask t)).1
def mhit (b g:Int) (ask:Nat → Bool) (t:Nat):Bool:=(mstep b g (mfirst b g ask t) t (ask t)).2
theorem mfirst_lt (b g:Int) (ask:Nat → Bool) (t:Nat):-1 ≤ mfirst b g ask t ∧ mfirst b g ask t < t:=by
 induction t with
 | zero=>exact ⟨by unfold mfirst;omega,by unfold mfirst;omega⟩
 | succ t ih =>
  unfold mfirst mstep
  split
  ·split
   ·simp only;omega
   ·split
    ·simp only;omega
    ·simp only;omega
  ·simp only;omega
theorem made_count (b g:Int) (ask:Nat → Bool) (hb:1 ≤ b) (hg:1 ≤ g) (t0 d:Nat) :
  (mfirst b g ask (t0 + d) ≤ (t0:Int) - b ∨ mfirst b g ask (t0 + d) < 0) ∧ Fc (mhit b g ask) (t0 + d) - Fc (mhit b g ask) t0 = 0 ∨
  ∃ c:Int,1 ≤ c ∧ 0 ≤ mfirst b g ask (t0 + d) ∧ (t0:Int) - b + 1 + (c - 1) * g ≤ mfirst b g ask (t0 + d) ∧
   Fc (mhit b g ask) (t0 + d) - Fc (mhit b g ask) t0 ≤ b * (c - 1) + min b ((t0 + d:Nat) - mfirst b g ask (t0 + d)):=by
 induction d with
 | zero =>
  have h:=mfirst_lt b g ask t0
  by_cases h1:mfirst b g ask t0 ≤ (t0:Int) - b ∨ mfirst b g ask t0 < 0
  ·exact .inl ⟨h1,by show Fc _ t0 - Fc _ t0 = 0;omega⟩
  ·refine .inr ⟨1,by omega,by show 0 ≤ mfirst b g ask t0;omega,by show _ ≤ mfirst b g ask t0;omega,?_⟩
   show Fc _ t0 - Fc _ t0 ≤ b * (1 - 1) + min b ((t0:Int) - mfirst b g ask t0)
   simp only [Int.sub_self,Int.mul_zero]
   omega
 | succ d ih =>
  have hl:=mfirst_lt b g ask (t0 + d)
  have e1:mfirst b g ask (t0 + (d + 1)) = (mstep b g (mfirst b g ask (t0 + d)) (t0 + d) (ask (t0 + d))).1:=rfl
  have e2:Fc (mhit b g ask) (t0 + (d + 1)) = Fc (mhit b g ask) (t0 + d) + (if (mstep b g (mfirst b g ask (t0 + d)) (t0 + d) (ask (t0 + d))).2 = true then 1 else 0):=rfl
  rw [e1,e2]
  generalize mfirst b g ask (t0 + d) = f at *
  generalize Fc (mhit b g ask) (t0 + d) = F at *
  generalize Fc (mhit b g ask) t0 = G at *
  unfold mstep
  split
  ·split
   ·rename_i hs
    simp only [if_true]
    rcases ih with ⟨h1,h2⟩ | ⟨c,h1,h2,h3,h4⟩
    ·exfalso;omega
    ·exact .inr ⟨c,h1,h2,h3,by omega⟩
   ·split
    ·rename_i hs hn
     simp only [if_true]
     rcases ih with ⟨h1,h2⟩ | ⟨c,h1,h2,h3,h4⟩
     ·exact .inr ⟨1,by omega,by omega,by omega,by simp only [Int.sub_self,Int.mul_zero];omega⟩
     ·refine .inr ⟨c + 1,by omega,by omega,?_,?_⟩
      ·have:(c + 1 - 1) * g = (c - 1) * g + g:=by rw [show c + 1 - 1 = (c - 1) + 1 by omega,Int.add_mul,Int.one_mul]
       omega
      ·have:b * (c + 1 - 1) = b * (c - 1) + b:=by rw [show c + 1 - 1 = (c - 1) + 1 by omega,Int.mul_add,Int.mul_one]
       omega
    ·simp only [Bool.false_eq_true,if_false]
     rcases ih with ⟨h1,h2⟩ | ⟨c,h1,h2,h3,h4⟩
     ·exact .inl ⟨h1,by omega⟩
     ·exact .inr ⟨c,h1,h2,h3,by omega⟩
  ·simp only [Bool.false_eq_true,if_false]
   rcases ih with ⟨h1,h2⟩ | ⟨c,h1,h2,h3,h4⟩
   ·exact .inl ⟨h1,by omega⟩
   ·exact .inr ⟨c,h1,h2,h3,by omega⟩
theorem legal_made (b g:Int) (ask:Nat → Bool) (hb:1 ≤ b) (hg:1 ≤ g):Legal (mhit b g ask) b g:=by
 intro t0 t ht
 obtain ⟨d,rfl⟩:∃ d,t = t0 + d:=⟨t - t0,by omega⟩
 by_cases hd:d = 0
 ·subst hd
  have:mostI (((t0 + 0:Nat):Int) - t0) b g = 0:=by unfold mostI;rw [if_pos (by omega)]
  rw [this];show Fc _ t0 - Fc _ t0 ≤ b * 0;omega
 ·have e:mostI (((t0 + d:Nat):Int) - t0) b g = ((d:Int) + b - 1 + g - 1) / g:=by
   unfold mostI;rw [if_neg (by omega),show ((t0 + d:Nat):Int) - t0 = d by omega]
  rw [e]
  have hl:=mfirst_lt b g ask (t0 + d)
  rcases made_count b g ask hb hg t0 d with ⟨h1,h2⟩ | ⟨c,h1,h2,h3,h4⟩
  ·rw [h2]
   exact Int.mul_nonneg (by omega) (Int.ediv_nonneg (by omega) (by omega))
  ·have hc:c ≤ ((d:Int) + b - 1 + g - 1) / g:=by
    rw [Int.le_ediv_iff_mul_le (by omega)]
    have:c * g = (c - 1) * g + g:=by rw [Int.sub_mul,Int.one_mul];omega
    omega
   have h5:b * (c - 1) + b = b * c:=by rw [Int.mul_sub,Int.mul_one];omega
   have h6:b * c ≤ b * (((d:Int) + b - 1 + g - 1) / g):=Int.mul_le_mul_of_nonneg_left hc (by omega)
   omega
section
variable {tk:Nat → Tk} {n:Nat}
theorem rels_same {s s':St} {rs:List (Int × Int)} {ev:List Ev} (h:Rels tk n s rs s' ev) :
  s'.now = s.now ∧ s'.last = s.last ∧ (∀ i,s.cnt i ≤ s'.cnt i) ∧ (∀ i,s'.job i = s.job i ∨ ∃ j,s'.job i = some j ∧ s.cnt i ≤ j.no) ∧ ev.length ≤ rs.length:=by
 induction h with
 | nil s=>exact ⟨rfl,rfl,fun i=>Int.le_refl _,fun i=>.inl rfl,Nat.le_refl _⟩
 | @cons s s1 s2 r rs e1 e2 h1 h2 ih =>
  obtain ⟨a1,a2,a3,a4,a5⟩:=ih
  have key:s1.now = s.now ∧ s1.last = s.last ∧ (∀ i,s.cnt i ≤ s1.cnt i) ∧ (∀ i,s1.job i = s.job i ∨ ∃ j,s1.job i = some j ∧ s.cnt i ≤ j.no) ∧ e1.length ≤ 1:=by
   cases h1 with
   | none i d h=>exact ⟨rfl,rfl,fun i=>Int.le_refl _,fun i=>.inl rfl,by simp⟩
   | early i d h ho=>exact ⟨rfl,rfl,fun i=>Int.le_refl _,fun i=>.inl rfl,by simp⟩
   | good i d m h ho hm =>
    refine ⟨rfl,rfl,fun k=>?_,fun k=>?_,by simp⟩
    ·show s.cnt k ≤ upd s.cnt i (s.cnt i + 1) k
     by_cases hk:k = i
     ·subst hk;rw [upd_self];omega
     ·rw [upd_ne _ _ hk];omega
    ·by_cases hk:k = i
     ·subst hk;exact .inr ⟨_,upd_self _ _ _,Int.le_refl _⟩
     ·exact .inl (upd_ne _ _ hk)
  obtain ⟨b1,b2,b3,b4,b5⟩:=key
  refine ⟨a1.trans b1,a2.trans b2,fun i=>Int.le_trans (b3 i) (a3 i),fun i=>?_,by rw [List.length_append,List.length_cons];omega⟩
  rcases a4 i with h | ⟨j,h,hn⟩
  ·rcases b4 i with k | ⟨j,k,kn⟩
   ·exact .inl (h.trans k)
   ·exact .inr ⟨j,h.trans k,kn⟩
  ·exact .inr ⟨j,h,Int.le_trans (b3 i) hn⟩
theorem lateTo_len (s:St) (m:Nat):(lateTo tk s m).2.length ≤ m:=by
 induction m with
 | zero=>exact Nat.le_refl _
 | succ m ih =>
  unfold lateTo
  split
  ·omega
  ·split
   ·simp only [List.length_append,List.length_cons,List.length_nil];omega
   ·omega
theorem runOut_len (s:St) (i:Nat) (j:Jb) (what:Int):(runOut tk s i j what).2.length ≤ 1:=by
 unfold runOut
 split
 ·exact Nat.le_refl _
 ·split
  ·exact Nat.le_refl _
  ·split
   ·split
    ·exact Nat.le_refl _
    ·split
     ·exact Nat.le_refl _
     ·exact Nat.le_refl _
   ·split
    ·exact Nat.le_refl _
    ·exact Nat.zero_le _
theorem events_few {s s':St} {rs:List (Int × Int)} {hit:Bool} {ev:List Ev} (h:Tick1 tk n s rs hit s' ev):ev.length ≤ n + rs.length + 2:=by
 cases h with
 | @mk s2 s3 e2 e3 h2 h3 =>
  have h1:=lateTo_len (tk:=tk) s n
  obtain ⟨_,_,_,_,h2'⟩:=rels_same h2
  have h3':e3.length ≤ 2:=by
   cases h3 with
   | none h=>simp
   | some i j hT =>
    unfold runS
    simp only [List.length_append]
    have a:=runOut_len (tk:=tk) { s2 with job:=upd s2.job i (some (jstep (tk i) j hit).1),last:=(i:Int) } i (jstep (tk i) j hit).1 (jstep (tk i) j hit).2
    have b:(evStart tk s2 i j).length ≤ 1:=by
     unfold evStart
     split
     ·simp
     ·split <;> simp
    omega
  simp only [List.length_append]
  omega
end
end
end Go.Proofs.YtnoahekcemfmcaaGreatDoor
