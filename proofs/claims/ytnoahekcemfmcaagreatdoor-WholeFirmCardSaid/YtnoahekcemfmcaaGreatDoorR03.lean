/- A part of the walk: Sched3 Va W1. -/
import Derived.Test.YtnoahekcemfmcaaGreatDoorR02
import Derived.Test.YtnoahekcemfmcaaGreatDoorProg
import Derived.Test.YtnoahekcemfmcaaGreatDoorR01
import Derived.Deep.DeepCutAuto
import Derived.Deep.QuietTactic
import Derived.BigQuiet
import Derived.RegionTactic
import Derived.Deep.RegionHeld3
import Derived.Deep.RegionLaw
import Derived.Deep.DrawnRows
import Derived.Sort.Grow
namespace Go.Proofs.YtnoahekcemfmcaaGreatDoor
set_option linter.unusedVariables false
set_option linter.unusedSimpArgs false
set_option maxHeartbeats 80000000
set_option maxRecDepth 100000
section
def ceilI (w t:Int):Int:=(w + t - 1) / t
def mostI (w b g:Int):Int:=if w = 0 then 0 else (w + b - 1 + g - 1) / g
def Fc (σ:Nat → Bool) (t:Nat):Int:=S (fun k=>if σ k = true then 1 else 0) t
def nextW (tk:Nat → Tk) (n i:Nat) (b g ahead dear w:Int):Int :=
 wholeT (tk i) + ahead + S (fun k=>if (tk k).Prio < (tk i).Prio then ceilI w (tk k).T * wholeT (tk k) else 0) n + b * dear * mostI w b g
structure An (tk:Nat → Tk) (n i:Nat) (b g R ahead dear:Int):Prop where
 i_lt:i < n
 ok:∀ k,k < n → (tk k).Ok
 pd:∀ k l,k < n → l < n → k ≠ l → (tk k).Prio ≠ (tk l).Prio
 de:∀ k,k < n → (tk k).Prio ≤ (tk i).Prio ∨ (tk k).Mode = 3 → extraT (tk k) ≤ dear
 ah:∀ k,k < n → (tk i).Prio ≤ (tk k).Prio → (tk k).Mode = 3 → extraT (tk k) ≤ ahead
 a0:0 ≤ ahead
 d0:0 ≤ dear
 b0:0 ≤ b
 r1:1 ≤ R
 rd:R ≤ (tk i).D
 fx:nextW tk n i b g ahead dear R = R
def Legal (σ:Nat → Bool) (b g:Int):Prop:=∀ t0 t:Nat,t0 ≤ t → Fc σ t - Fc σ t0 ≤ b * mostI ((t:Int) - t0) b g
def hpE (tk:Nat → Tk) (i k:Nat) (j:Jb):Bool:=j.must && (decide ((tk k).Prio < (tk i).Prio) || urg (tk k) j)
def hpJ (tk:Nat → Tk) (i k:Nat) (j:Jb):Bool:=j.must && (decide ((tk k).Prio < (tk i).Prio) || urg (tk k) j || decide (k = i))
def wt (tk:Nat → Tk) (E:Nat → Jb → Bool) (s:St) (k:Nat):Int :=
 match s.job k with
 | none=>0
 | some j=>if E k j = true then bud (tk k) j else 0
def Phi (tk:Nat → Tk) (n:Nat) (E:Nat → Jb → Bool) (s:St):Int:=S (wt tk E s) n
def sumW (tk:Nat → Tk) (n i:Nat) (c:Nat → Int):Int:=S (fun k=>if (tk k).Prio < (tk i).Prio then c k * wholeT (tk k) else 0) n
theorem whole_pos {t:Tk} (ht:t.Ok):1 ≤ wholeT t:=by
 have h1:=ht.c1
 have h2:=ht.k0
 unfold wholeT
 split
 ·rename_i h
  have h3:=(ht.r1 h).1
  have:0 ≤ (t.C + t.Seg - 1) / t.Seg * t.Cost:=Int.mul_nonneg (Int.ediv_nonneg (by omega) (by omega)) h2
  omega
 ·omega
section
variable {tk:Nat → Tk} {n i:Nat} {b g R ahead dear:Int} {σ:Nat → Bool}
structure Win (tk:Nat → Tk) (n i:Nat) (R ahead dear:Int) (σ:Nat → Bool) (E:Nat → Jb → Bool) (ex:Int) (s:St) (t0:Nat) (c0:Nat → Int):Prop where
 t:t0 ≤ s.now
 r:(s.now:Int) - t0 < R
 c:∀ k,k < n → c0 k ≤ s.cnt k ∧ (c0 k < s.cnt k → (t0:Int) + (s.cnt k - c0 k) * (tk k).T ≤ s.opn k)
 p:Phi tk n E s + ((s.now:Int) - t0) ≤ ahead + ex + sumW tk n i (fun k=>s.cnt k - c0 k) + dear * (Fc σ s.now - Fc σ t0)
def W1 (tk:Nat → Tk) (n i:Nat) (R ahead dear:Int) (σ:Nat → Bool) (s:St):Prop:=∃ t0 c0,Win tk n i R ahead dear σ (hpE tk i) 0 s t0 c0
def W2 (tk:Nat → Tk) (n i:Nat) (R ahead dear:Int) (σ:Nat → Bool) (s:St):Prop :=
 ∀ J,s.job i = some J → J.must = true → ∃ t0 c0,t0 ≤ J.rel ∧ Win tk n i R ahead dear σ (hpJ tk i) (wholeT (tk i)) s t0 c0
theorem wt_nonneg {x:Int} {s:St} (A:An tk n i b g R ahead dear) (hI:Inv tk n x s) (E:Nat → Jb → Bool):∀ k,k < n → 0 ≤ wt tk E s k:=by
 intro k hk
 unfold wt
 split
 ·exact Int.le_refl _
 ·rename_i j e
  split
  ·have:=bud_pos (A.ok k hk) (hI.ok k j hk e);omega
  ·exact Int.le_refl _
theorem phi_nonneg {x:Int} {s:St} (A:An tk n i b g R ahead dear) (hI:Inv tk n x s) (E:Nat → Jb → Bool):0 ≤ Phi tk n E s:=S_nonneg (wt_nonneg A hI E)
theorem phi_late {x:Int} {s s':St} (A:An tk n i b g R ahead dear) (hI:Inv tk n x s) (hl:Late tk n s s') (E:Nat → Jb → Bool):Phi tk n E s' ≤ Phi tk n E s:=by
 refine S_le fun k hk=>?_
 rcases hl.job k with h | ⟨h,_⟩
 ·unfold wt;rw [h];exact Int.le_refl _
 ·have:=wt_nonneg A hI E k hk
  have e:wt tk E s' k = 0:=by unfold wt;rw [h]
  omega
theorem Win.late {x:Int} {s s':St} {E:Nat → Jb → Bool} {ex:Int} {t0:Nat} {c0:Nat → Int} (A:An tk n i b g R ahead dear) (hI:Inv tk n x s) (hl:Late tk n s s') (h:Win tk n i R ahead dear σ E ex s t0 c0):Win tk n i R ahead dear σ E ex s' t0 c0:=by
 refine ⟨by rw [hl.now];exact h.t,by rw [hl.now];exact h.r,by rw [hl.cnt,hl.opn];exact h.c,?_⟩
 have:=phi_late A hI hl E
 have h2:=h.p
 rw [hl.now,hl.cnt]
 omega
theorem W2.late {x:Int} {s s':St} (A:An tk n i b g R ahead dear) (hI:Inv tk n x s) (hl:Late tk n s s') (h:W2 tk n i R ahead dear σ s):W2 tk n i R ahead dear σ s':=by
 intro J hJ hm
 have hJ':s.job i = some J:=by
  rcases hl.job i with e | ⟨e,_⟩
  ·rw [← e];exact hJ
  ·rw [e] at hJ;cases hJ
 obtain ⟨t0,c0,h1,h2⟩:=h J hJ' hm
 exact ⟨t0,c0,h1,h2.late A hI hl⟩
theorem W2.not_late {s:St} (A:An tk n i b g R ahead dear) (h:W2 tk n i R ahead dear σ s) {J:Jb} (hJ:s.job i = some J) (hm:J.must = true):(s.now:Int) - J.rel < R:=by
 obtain ⟨t0,c0,h1,h2⟩:=h J hJ hm
 have:=h2.r
 omega
theorem bud_newJ {s:St} {k:Nat} {d:Int} {m:Bool} (ht:(tk k).Ok):bud (tk k) (newJ tk s k d m) ≤ wholeT (tk k):=by
 obtain ⟨h1,h2⟩:=cut_ok (tk k) ht d
 have:=bud_new ht h1 h2
 unfold bud newJ
 simpa using this
theorem wt_other {s:St} {k l:Nat} {d:Int} {m:Bool} (E:Nat → Jb → Bool) (h:l ≠ k):wt tk E (relS tk s k d m) l = wt tk E s l:=by
 have e:(relS tk s k d m).job l = s.job l:=upd_ne _ _ h
 unfold wt;rw [e]
theorem wt_new {s:St} {k:Nat} {d:Int} {m:Bool} (E:Nat → Jb → Bool):wt tk E (relS tk s k d m) k = if E k (newJ tk s k d m) = true then bud (tk k) (newJ tk s k d m) else 0:=by
 have e:(relS tk s k d m).job k = some (newJ tk s k d m):=upd_self _ _ _
 unfold wt;rw [e]
theorem urg_new {s:St} {k:Nat} {d:Int} {m:Bool}:urg (tk k) (newJ tk s k d m) = false:=by
 unfold urg newJ;simp
theorem cnt_rel {s:St} {k:Nat} {d:Int} {m:Bool} {c0:Nat → Int} (hk:k < n):sumW tk n i (fun l=>(relS tk s k d m).cnt l - c0 l) = sumW tk n i (fun l=>s.cnt l - c0 l) + (if (tk k).Prio < (tk i).Prio then wholeT (tk k) else 0):=by
 unfold sumW
 rw [S_one (g:=fun l=>if (tk l).Prio < (tk i).Prio then (s.cnt l - c0 l) * wholeT (tk l) else 0) hk (fun l _ hl=>by
  have e:(relS tk s k d m).cnt l = s.cnt l:=upd_ne _ _ hl
  simp only [e])]
 have e:(relS tk s k d m).cnt k = s.cnt k + 1:=upd_self _ _ _
 simp only [e]
 split
 ·rw [show s.cnt k + 1 - c0 k = (s.cnt k - c0 k) + 1 by omega,Int.add_mul,Int.one_mul];omega
 ·omega
theorem c_rel {s:St} {k:Nat} {d:Int} {m:Bool} {t0:Nat} {c0:Nat → Int} (ht:t0 ≤ s.now) (ho:s.opn k ≤ (s.now:Int)) (h:∀ l,l < n → c0 l ≤ s.cnt l ∧ (c0 l < s.cnt l → (t0:Int) + (s.cnt l - c0 l) * (tk l).T ≤ s.opn l)) :
  ∀ l,l < n → c0 l ≤ (relS tk s k d m).cnt l ∧ (c0 l < (relS tk s k d m).cnt l → (t0:Int) + ((relS tk s k d m).cnt l - c0 l) * (tk l).T ≤ (relS tk s k d m).opn l):=by
 intro l hl
 obtain ⟨h1,h2⟩:=h l hl
 by_cases e:l = k
 ·subst e
  have e1:(relS tk s l d m).cnt l = s.cnt l + 1:=upd_self _ _ _
  have e2:(relS tk s l d m).opn l = (s.now:Int) + (tk l).T:=upd_self _ _ _
  rw [e1,e2]
  refine ⟨by omega,fun _=>?_⟩
  rw [show s.cnt l + 1 - c0 l = (s.cnt l - c0 l) + 1 by omega,Int.add_mul,Int.one_mul]
  by_cases hc:c0 l < s.cnt l
  ·have:=h2 hc;omega
  ·rw [show s.cnt l - c0 l = 0 by omega];omega
 ·have e1:(relS tk s k d m).cnt l = s.cnt l:=upd_ne _ _ e
  have e2:(relS tk s k d m).opn l = s.opn l:=upd_ne _ _ e
  rw [e1,e2];exact ⟨h1,h2⟩
theorem W1.rel {s:St} (A:An tk n i b g R ahead dear) (hI:Inv tk n 0 s) (hl:InTime tk n s) (h:W1 tk n i R ahead dear σ s) {k:Nat} (hk:k < n) (ho:s.opn k ≤ (s.now:Int)) (d:Int) (m:Bool):W1 tk n i R ahead dear σ (relS tk s k d m):=by
 obtain ⟨t0,c0,h⟩:=h
 refine ⟨t0,c0,h.t,h.r,c_rel h.t ho h.c,?_⟩
 rw [cnt_rel hk]
 have hp:=h.p
 have hn:=hI.closed hl A.ok hk ho
 have e1:Phi tk n (hpE tk i) (relS tk s k d m) ≤ Phi tk n (hpE tk i) s + (if (tk k).Prio < (tk i).Prio then wholeT (tk k) else 0):=by
  refine S_one_le hk (fun l _ hne=>Int.le_of_eq (wt_other _ hne)) ?_
  rw [wt_new]
  have e0:wt tk (hpE tk i) s k = 0:=by unfold wt;rw [hn]
  rw [e0]
  have e2:hpE tk i k (newJ tk s k d m) = (m && decide ((tk k).Prio < (tk i).Prio)):=by unfold hpE;rw [urg_new,Bool.or_false];rfl
  rw [e2]
  have hb:=bud_newJ (s:=s) (d:=d) (m:=m) (A.ok k hk)
  have hw:=whole_pos (A.ok k hk)
  by_cases hc:(tk k).Prio < (tk i).Prio
  ·rw [if_pos hc]
   cases m <;> simp [hc] <;> omega
  ·simp [hc]
 show Phi tk n (hpE tk i) (relS tk s k d m) + ((s.now:Int) - t0) ≤ _ + dear * (Fc σ s.now - Fc σ t0)
 omega
theorem hpJ_ne {k:Nat} {j:Jb} (h:k ≠ i):hpJ tk i k j = hpE tk i k j:=by unfold hpJ hpE;simp [h]
theorem W2.rel {s:St} (A:An tk n i b g R ahead dear) (hI:Inv tk n 0 s) (hl:InTime tk n s) (h1:W1 tk n i R ahead dear σ s) (h:W2 tk n i R ahead dear σ s) {k:Nat} (hk:k < n) (ho:s.opn k ≤ (s.now:Int)) (d:Int) (m:Bool):W2 tk n i R ahead dear σ (relS tk s k d m):=by
 intro J hJ hm
 have hn:=hI.closed hl A.ok hk ho
 have hb:=bud_newJ (s:=s) (d:=d) (m:=m) (A.ok k hk)
 have hw:=whole_pos (A.ok k hk)
 by_cases e:k = i
 ·subst e
  have hJ:upd s.job k (some (newJ tk s k d m)) k = some J:=hJ
  rw [upd_self] at hJ
  cases hJ
  obtain ⟨t0,c0,h⟩:=h1
  refine ⟨t0,c0,h.t,h.t,h.r,c_rel h.t ho h.c,?_⟩
  rw [cnt_rel hk,if_neg (by omega)]
  have hp:=h.p
  have e1:Phi tk n (hpJ tk k) (relS tk s k d m) ≤ Phi tk n (hpE tk k) s + wholeT (tk k):=by
   refine S_one_le hk (fun l _ hne=>Int.le_of_eq ?_) ?_
   ·rw [wt_other _ hne]
    unfold wt
    split
    ·rfl
    ·rw [hpJ_ne hne]
   ·rw [wt_new]
    have e0:wt tk (hpE tk k) s k = 0:=by unfold wt;rw [hn]
    rw [e0]
    split <;> omega
  show Phi tk n (hpJ tk k) (relS tk s k d m) + ((s.now:Int) - t0) ≤ _ + dear * (Fc σ s.now - Fc σ t0)
  omega
 ·have hJ:upd s.job k (some (newJ tk s k d m)) i = some J:=hJ
  rw [upd_ne _ _ (fun c=>e c.symm)] at hJ
  obtain ⟨t0,c0,h0,h⟩:=h J hJ hm
  refine ⟨t0,c0,h0,h.t,h.r,c_rel h.t ho h.c,?_⟩
  rw [cnt_rel hk]
  have hp:=h.p
  have e1:Phi tk n (hpJ tk i) (relS tk s k d m) ≤ Phi tk n (hpJ tk i) s + (if (tk k).Prio < (tk i).Prio then wholeT (tk k) else 0):=by
   refine S_one_le hk (fun l _ hne=>Int.le_of_eq (wt_other _ hne)) ?_
   rw [wt_new]
   have e0:wt tk (hpJ tk i) s k = 0:=by unfold wt;rw [hn]
   rw [e0]
   have e2:hpJ tk i k (newJ tk s k d m) = (m && decide ((tk k).Prio < (tk i).Prio)):=by rw [hpJ_ne e];unfold hpE;rw [urg_new,Bool.or_false];rfl
   rw [e2]
   by_cases hc:(tk k).Prio < (tk i).Prio
   ·rw [if_pos hc]
    cases m <;> simp [hc] <;> omega
   ·simp [hc]
  show Phi tk n (hpJ tk i) (relS tk s k d m) + ((s.now:Int) - t0) ≤ _ + dear * (Fc σ s.now - Fc σ t0)
  omega
theorem sumW_le {s:St} {t0:Nat} {c0:Nat → Int} (A:An tk n i b g R ahead dear) (hI:Inv tk n 1 s) (ht:t0 ≤ s.now)
  (h:∀ l,l < n → c0 l ≤ s.cnt l ∧ (c0 l < s.cnt l → (t0:Int) + (s.cnt l - c0 l) * (tk l).T ≤ s.opn l)) :
  sumW tk n i (fun k=>s.cnt k - c0 k) ≤ S (fun k=>if (tk k).Prio < (tk i).Prio then ceilI ((s.now:Int) - t0) (tk k).T * wholeT (tk k) else 0) n:=by
 refine S_le fun k hk=>?_
 simp only
 split
 ·refine Int.mul_le_mul_of_nonneg_right ?_ (by have:=whole_pos (A.ok k hk);omega)
  obtain ⟨h1,h2⟩:=h k hk
  have hT:1 ≤ (tk k).T:=by have:=(A.ok k hk).c1;have:=(A.ok k hk).cd;have:=(A.ok k hk).dt;omega
  unfold ceilI
  by_cases hc:c0 k < s.cnt k
  ·rw [Int.le_ediv_iff_mul_le (by omega)]
   have h3:=h2 hc
   have h4:=hI.le k hk
   omega
  ·have:0 ≤ ((s.now:Int) - t0 + (tk k).T - 1) / (tk k).T:=Int.ediv_nonneg (by omega) (by omega)
   omega
 ·exact Int.le_refl _
theorem win_r {s:St} {t0:Nat} {c0:Nat → Int} {ph ex:Int} (A:An tk n i b g R ahead dear) (L:Legal σ b g) (hI:Inv tk n 1 s) (ht:t0 ≤ s.now) (hr:(s.now:Int) - t0 ≤ R)
  (hc:∀ l,l < n → c0 l ≤ s.cnt l ∧ (c0 l < s.cnt l → (t0:Int) + (s.cnt l - c0 l) * (tk l).T ≤ s.opn l))
  (hp:ph + ((s.now:Int) - t0) ≤ ahead + ex + sumW tk n i (fun k=>s.cnt k - c0 k) + dear * (Fc σ s.now - Fc σ t0)) (hx:ex < wholeT (tk i) + ph):(s.now:Int) - t0 < R:=by
 by_cases e:(s.now:Int) - t0 = R
 ·exfalso
  have h1:=sumW_le A hI ht hc
  have h2:=L t0 s.now ht
  have h3:dear * (Fc σ s.now - Fc σ t0) ≤ dear * (b * mostI ((s.now:Int) - t0) b g):=Int.mul_le_mul_of_nonneg_left h2 A.d0
  have h4:=A.fx
  unfold nextW at h4
  rw [e] at h1 h3 hp
  rw [← Int.mul_assoc,Int.mul_comm dear b] at h3
  omega
 ·omega
theorem extra_le {k:Nat} {j:Jb} (A:An tk n i b g R ahead dear) (hk:k < n) (h:hpJ tk i k j = true):extraT (tk k) ≤ dear:=by
 refine A.de k hk ?_
 unfold hpJ at h
 simp only [Bool.and_eq_true,Bool.or_eq_true,decide_eq_true_eq] at h
 rcases h.2 with (h | h) | h
 ·exact .inl (by omega)
 ·unfold urg at h
  simp only [decide_eq_true_eq] at h
  exact .inr h.1
 ·subst h;exact .inl (Int.le_refl _)
theorem hpE_J {k:Nat} {j:Jb} (h:hpE tk i k j = true):hpJ tk i k j = true:=by
 unfold hpJ
 unfold hpE at h
 simp only [Bool.and_eq_true,Bool.or_eq_true,decide_eq_true_eq] at h ⊢
 exact ⟨h.1,.inl h.2⟩
theorem phi_run {s s':St} {hit:Bool} {k:Nat} {j:Jb} (A:An tk n i b g R ahead dear) (hI:Inv tk n 0 s) (E:Nat → Jb → Bool) (hE:E k j = true) (hx:extraT (tk k) ≤ dear) (hk:k < n) (hj:s.job k = some j)
  (ho:∀ l,l ≠ k → s'.job l = s.job l)
  (hs:s'.job k = none ∨ s'.job k = some (jstep (tk k) j hit).1 ∧ jstep (tk k) j hit = ({ (rstep (tk k) j hit).1 with begun:=true },(rstep (tk k) j hit).2) ∧ (rstep (tk k) j hit).2 ≠ 4) :
  Phi tk n E s' ≤ Phi tk n E s + (-1 + dear * (if hit = true then 1 else 0)):=by
 refine S_one_le hk (fun l hl hne=>Int.le_of_eq ?_) ?_
 ·unfold wt;rw [ho l hne]
 ·have hok:=hI.ok k j hk hj
  have hb:=bud_pos (A.ok k hk) hok
  have e0:wt tk E s k = bud (tk k) j:=by unfold wt;rw [hj];simp [hE]
  have hd:0 ≤ dear * (if hit = true then 1 else 0):=Int.mul_nonneg A.d0 (by split <;> omega)
  rw [e0]
  rcases hs with hs | ⟨hs,h1,h2⟩
  ·have e1:wt tk E s' k = 0:=by unfold wt;rw [hs]
   omega
  ·have h3:=(rstep_laws (A.ok k hk) hok hit).1
   rcases h3 with h3 | ⟨h3,h4⟩
   ·exact absurd h3 h2
   ·have e2:bud (tk k) (jstep (tk k) j hit).1 = bud (tk k) (rstep (tk k) j hit).1:=by rw [h1];rfl
    have h5:=bud_pos (A.ok k hk) h3
    have e1:wt tk E s' k ≤ bud (tk k) (rstep (tk k) j hit).1:=by
     unfold wt;rw [hs]
     simp only
     split
     ·omega
     ·omega
    have h6:(if hit = true then extraT (tk k) else 0) ≤ dear * (if hit = true then 1 else 0):=by
     cases hit <;> simp <;> omega
    omega
theorem Fc_succ (t:Nat):Fc σ (t + 1) = Fc σ t + (if σ t = true then 1 else 0):=rfl
theorem top_counts {s:St} {k:Nat} {j J:Jb} (A:An tk n i b g R ahead dear) (ht:Top tk n s k j) (hJ:s.job i = some J) (hm:J.must = true):hpJ tk i k j = true:=by
 obtain ⟨hk,hj,hb⟩:=ht
 by_cases e:i = k
 ·subst e
  rw [hj] at hJ;cases hJ
  unfold hpJ
  simp [hm]
 ·have h:=hb i J A.i_lt e hJ
  have hp:=A.pd k i hk A.i_lt (fun c=>e c.symm)
  unfold before bandJ at h
  unfold hpJ
  rw [hm] at h
  simp only [Bool.true_eq_false,if_false] at h
  cases hmj:j.must
  ·rw [hmj] at h
   simp only [if_true] at h
   split at h <;> omega
  ·rw [hmj] at h
   simp only [Bool.true_eq_false,if_false] at h
   simp only [Bool.true_and,Bool.or_eq_true,decide_eq_true_eq]
   cases hu:urg (tk k) j
   ·rw [hu] at h
    simp only [Bool.false_eq_true,if_false] at h
    split at h <;> omega
   ·exact .inl (.inr rfl)
theorem none_counts {s:St} {k l:Nat} {j c:Jb} (A:An tk n i b g R ahead dear) (ht:Top tk n s k j) (hE:hpE tk i k j = false) (hl:l < n) (hc:s.job l = some c):hpE tk i l c = false:=by
 obtain ⟨hk,hj,hb⟩:=ht
 by_cases e:l = k
 ·subst e
  rw [hj] at hc;cases hc;exact hE
 ·have h:=hb l c hl e hc
  cases h2:hpE tk i l c
  ·rfl
  ·exfalso
   unfold hpE at h2 hE
   simp only [Bool.and_eq_true,Bool.or_eq_true,decide_eq_true_eq] at h2
   unfold before bandJ at h
   rw [h2.1] at h
   simp only [Bool.true_eq_false,if_false] at h
   cases hmj:j.must
   ·rw [hmj] at h
    simp only [if_true] at h
    split at h <;> omega
   ·rw [hmj] at h hE
    simp only [Bool.true_eq_false,if_false] at h
    simp only [Bool.true_and,Bool.or_eq_false_iff,decide_eq_false_iff_not] at hE
    rw [hE.2] at h
    simp only [Bool.false_eq_true,if_false] at h
    rcases h2.2 with h3 | h3
    ·split at h <;> omega
    ·rw [h3] at h
     simp at h
theorem W1.run {s s':St} {ev:List Ev} (A:An tk n i b g R ahead dear) (L:Legal σ b g) (hI:Inv tk n 0 s) (h:W1 tk n i R ahead dear σ s) (hr:Run1 tk n s (σ s.now) s' ev):W1 tk n i R ahead dear σ { s' with now:=s'.now + 1 }:=by
 have hI':=hI.run A.ok hr
 obtain ⟨e1,e2,e3,hj⟩:=run_job A.ok hI hr
 have hreset:Phi tk n (hpE tk i) s' ≤ ahead → W1 tk n i R ahead dear σ { s' with now:=s'.now + 1 }:=fun hp=>by
  refine ⟨s'.now + 1,s'.cnt,Nat.le_refl _,by have:=A.r1;simp only;omega,fun k hk=>⟨Int.le_refl _,fun c=>by simp only at c;omega⟩,?_⟩
  have e:sumW tk n i (fun k=>s'.cnt k - s'.cnt k) = 0:=S_zero fun k _=>by simp only;split <;> simp
  show Phi tk n (hpE tk i) s' + (((s'.now + 1:Nat):Int) - ((s'.now + 1:Nat):Int)) ≤ ahead + 0 + sumW tk n i (fun k=>s'.cnt k - s'.cnt k) + dear * (Fc σ (s'.now + 1) - Fc σ (s'.now + 1))
  rw [e,Int.sub_self,Int.sub_self,Int.mul_zero]
  omega
 rcases hj with ⟨hn,e⟩ | ⟨k,j,ht,ho,hs⟩
 ·refine hreset ?_
  have:Phi tk n (hpE tk i) s' = 0:=S_zero fun k hk=>by unfold wt;rw [e,hn k hk]
  have:=A.a0
  omega
 ·cases hE:hpE tk i k j
  ·refine hreset ?_
   have h0:Phi tk n (hpE tk i) s' ≤ 0 + ahead:=by
    have hz:Phi tk n (hpE tk i) s = 0:=S_zero fun l hl=>by
     unfold wt
     split
     ·rfl
     ·rename_i c hc
      rw [none_counts A ht hE hl hc];simp
    rw [← hz]
    refine S_one_le ht.1 (fun l hl hne=>Int.le_of_eq (by unfold wt;rw [ho l hne])) ?_
    have e0:wt tk (hpE tk i) s k = 0:=by unfold wt;rw [ht.2.1];simp [hE]
    rw [e0]
    rcases hs with hs | ⟨hs,h1,h2,h3,h4⟩
    ·have e4:wt tk (hpE tk i) s' k = 0:=by unfold wt;rw [hs]
     have:=A.a0
     omega
    ·have hok:=hI.ok k j ht.1 ht.2.1
     obtain ⟨_,_,_,l3,_,_,_,l7,l8,_,_⟩:=rstep_laws (A.ok k ht.1) hok (σ s.now)
     have e2:bud (tk k) (jstep (tk k) j (σ s.now)).1 = bud (tk k) (rstep (tk k) j (σ s.now)).1:=by rw [h2];rfl
     have e5:(jstep (tk k) j (σ s.now)).1.must = j.must:=by rw [h2];exact l3
     have e6:urg (tk k) (jstep (tk k) j (σ s.now)).1 = urg (tk k) (rstep (tk k) j (σ s.now)).1:=by rw [h2];rfl
     unfold wt
     rw [hs]
     simp only
     split
     ·rename_i hc
      unfold hpE at hc hE
      rw [e5,e6] at hc
      simp only [Bool.and_eq_true,Bool.or_eq_true,decide_eq_true_eq] at hc
      rw [hc.1] at hE
      simp only [Bool.true_and,Bool.or_eq_false_iff,decide_eq_false_iff_not] at hE
      rcases hc.2 with h5 | h5
      ·exact absurd h5 hE.1
      ·rcases l8 h5 with h6 | h6
       ·rw [hE.2] at h6;cases h6
       ·obtain ⟨h7,h8⟩:=l7 h6
        have:=A.ah k ht.1 (by omega) h8
        omega
     ·have:=A.a0;omega
   omega
  ·obtain ⟨t0,c0,hw⟩:=h
   have hp:=hw.p
   have h1:=phi_run A hI (hpE tk i) hE (extra_le A ht.1 (hpE_J hE)) ht.1 ht.2.1 ho (hs.imp_right fun h=>⟨h.1,h.2.2.1,h.2.2.2.1⟩)
   have hc:∀ l,l < n → c0 l ≤ s'.cnt l ∧ (c0 l < s'.cnt l → (t0:Int) + (s'.cnt l - c0 l) * (tk l).T ≤ s'.opn l):=by rw [e2,e3];exact hw.c
   have ht0:t0 ≤ s'.now + 1:=by have:=hw.t;omega
   have hp':Phi tk n (hpE tk i) s' + (((s'.now + 1:Nat):Int) - t0) ≤ ahead + 0 + sumW tk n i (fun k=>s'.cnt k - c0 k) + dear * (Fc σ (s'.now + 1) - Fc σ t0):=by
    rw [Fc_succ,e3,e1,show Fc σ s.now + (if σ s.now = true then (1:Int) else 0) - Fc σ t0 = (Fc σ s.now - Fc σ t0) + (if σ s.now = true then (1:Int) else 0) by omega,Int.mul_add]
    omega
   refine ⟨t0,c0,ht0,?_,hc,hp'⟩
   have h0:=phi_nonneg A hI' (hpE tk i)
   have h0:0 ≤ Phi tk n (hpE tk i) s':=h0
   have hwp:=whole_pos (A.ok i A.i_lt)
   exact win_r (s:={ s' with now:=s'.now + 1 }) A L hI' ht0 (by have:=hw.r;simp only;omega) hc hp' (by omega)
theorem W2.run {s s':St} {ev:List Ev} (A:An tk n i b g R ahead dear) (L:Legal σ b g) (hI:Inv tk n 0 s) (h:W2 tk n i R ahead dear σ s) (hr:Run1 tk n s (σ s.now) s' ev):W2 tk n i R ahead dear σ { s' with now:=s'.now + 1 }:=by
 have hI':=hI.run A.ok hr
 obtain ⟨e1,e2,e3,hj⟩:=run_job A.ok hI hr
 intro J hJ hm
 have hJ:s'.job i = some J:=hJ
 rcases hj with ⟨hn,e⟩ | ⟨k,j,ht,ho,hs⟩
 ·rw [e,hn i A.i_lt] at hJ;cases hJ
 ·obtain ⟨J0,hJ0,hm0,hr0⟩:∃ J0,s.job i = some J0 ∧ J0.must = true ∧ J0.rel = J.rel:=by
   by_cases e:i = k
   ·subst e
    rcases hs with hs | ⟨hs,h1,h2,_⟩
    ·rw [hs] at hJ;cases hJ
    ·rw [hs] at hJ;cases hJ
     obtain ⟨_,_,l2,l3,_⟩:=rstep_laws (A.ok i ht.1) (hI.ok i j ht.1 ht.2.1) (σ s.now)
     refine ⟨j,ht.2.1,?_,?_⟩
     ·rw [h2] at hm;exact l3.symm.trans hm
     ·rw [h2];exact l2.symm
   ·rw [ho i e] at hJ
    exact ⟨J,hJ,hm,rfl⟩
  obtain ⟨t0,c0,hrel,hw⟩:=h J0 hJ0 hm0
  have hE:=top_counts A ht hJ0 hm0
  have hp:=hw.p
  have h1:=phi_run A hI (hpJ tk i) hE (extra_le A ht.1 hE) ht.1 ht.2.1 ho (hs.imp_right fun h=>⟨h.1,h.2.2.1,h.2.2.2.1⟩)
  have hc:∀ l,l < n → c0 l ≤ s'.cnt l ∧ (c0 l < s'.cnt l → (t0:Int) + (s'.cnt l - c0 l) * (tk l).T ≤ s'.opn l):=by rw [e2,e3];exact hw.c
  have ht0:t0 ≤ s'.now + 1:=by have:=hw.t;omega
  have hp':Phi tk n (hpJ tk i) s' + (((s'.now + 1:Nat):Int) - t0) ≤ ahead + wholeT (tk i) + sumW tk n i (fun k=>s'.cnt k - c0 k) + dear * (Fc σ (s'.now + 1) - Fc σ t0):=by
   rw [Fc_succ,e3,e1,show Fc σ s.now + (if σ s.now = true then (1:Int) else 0) - Fc σ t0 = (Fc σ s.now - Fc σ t0) + (if σ s.now = true then (1:Int) else 0) by omega,Int.mul_add]
   omega
  refine ⟨t0,c0,by rw [← hr0];exact hrel,ht0,?_,hc,hp'⟩
  have hwJ:wt tk (hpJ tk i) s' i = bud (tk i) J:=by
   unfold wt;rw [hJ]
   have:hpJ tk i i J = true:=by unfold hpJ;simp [hm]
   simp [this]
  have hbJ:=bud_pos (A.ok i A.i_lt) (hI'.ok i J A.i_lt hJ)
  have h2:wt tk (hpJ tk i) s' i ≤ Phi tk n (hpJ tk i) s':=S_ge_one A.i_lt (wt_nonneg A hI' (hpJ tk i))
  exact win_r (s:={ s' with now:=s'.now + 1 }) A L hI' ht0 (by have:=hw.r;simp only;omega) hc hp' (by omega)
end
end
def maxS (f:Nat → Int):Nat → Int
 | 0=>0
 | k + 1=>max (maxS f k) (f k)
theorem maxS_nonneg (f:Nat → Int) (n:Nat):0 ≤ maxS f n:=by
 induction n with
 | zero=>exact Int.le_refl _
 | succ n ih=>unfold maxS;omega
theorem maxS_le {f:Nat → Int} {n:Nat} {c:Int} (hc:0 ≤ c) (h:∀ k,k < n → f k ≤ c):maxS f n ≤ c:=by
 induction n with
 | zero=>exact hc
 | succ n ih=>have:=ih fun k hk=>h k (by omega);have:=h n (by omega);unfold maxS;omega
theorem le_maxS {f:Nat → Int} {n k:Nat} (h:k < n):f k ≤ maxS f n:=by
 induction n with
 | zero=>omega
 | succ n ih =>
  unfold maxS
  by_cases e:k = n
  ·subst e;omega
  ·have:=ih (by omega);omega
def dearF (tk:Nat → Tk) (i k:Nat):Int:=if (tk k).Prio ≤ (tk i).Prio ∨ (tk k).Mode = 3 then extraT (tk k) else 0
def aheadF (tk:Nat → Tk) (i k:Nat):Int:=if (tk i).Prio ≤ (tk k).Prio ∧ (tk k).Mode = 3 then extraT (tk k) else 0
def dearS (tk:Nat → Tk) (n i:Nat):Int:=maxS (dearF tk i) n
def aheadS (tk:Nat → Tk) (n i:Nat):Int:=maxS (aheadF tk i) n
theorem extra_bd {t:Tk} (ht:t.Ok):0 ≤ extraT t ∧ extraT t ≤ 1049576:=by
 have h0:=ht.k0;have h1:=ht.k1;have h2:=ht.cd;have h3:=ht.dt;have h4:=ht.tm
 unfold extraT
 by_cases hm:t.Mode = 1
 ·rw [if_pos hm];have:=ht.r1 hm;omega
 ·rw [if_neg hm];have:=ht.r2 hm;omega
theorem whole_bd {t:Tk} (ht:t.Ok):0 ≤ wholeT t ∧ wholeT t ≤ 1049624576:=by
 have h0:=ht.k0;have h1:=ht.k1;have h2:=ht.cd;have h3:=ht.dt;have h4:=ht.tm;have hc:=ht.c1
 unfold wholeT
 by_cases hm:t.Mode = 1
 ·rw [if_pos hm]
  have hr:=ht.r1 hm
  have e1:0 ≤ (t.C + t.Seg - 1) / t.Seg:=Int.ediv_nonneg (by omega) (by omega)
  have e2:(t.C + t.Seg - 1) / t.Seg ≤ t.C:=by
   rw [Int.ediv_le_iff_le_mul (by omega)]
   have:t.C * t.Seg + (t.Seg - 1) ≥ t.C + t.Seg - 1:=by
    have:t.C * 1 ≤ t.C * t.Seg:=Int.mul_le_mul_of_nonneg_left (by omega) (by omega)
    omega
   omega
  have e3:(t.C + t.Seg - 1) / t.Seg * t.Cost ≤ t.C * 1000:=Int.mul_le_mul e2 h1 h0 (by omega)
  have e4:0 ≤ (t.C + t.Seg - 1) / t.Seg * t.Cost:=Int.mul_nonneg e1 h0
  omega
 ·rw [if_neg hm];omega
theorem dear_bd {tk:Nat → Tk} {n:Nat} (hok:∀ k,k < n → (tk k).Ok) (i:Nat):0 ≤ dearS tk n i ∧ dearS tk n i ≤ 1049576 :=
 ⟨maxS_nonneg _ _,maxS_le (by omega) fun k hk=>by unfold dearF;have:=extra_bd (hok k hk);split <;> omega⟩
theorem ahead_bd {tk:Nat → Tk} {n:Nat} (hok:∀ k,k < n → (tk k).Ok) (i:Nat):0 ≤ aheadS tk n i ∧ aheadS tk n i ≤ 1049576 :=
 ⟨maxS_nonneg _ _,maxS_le (by omega) fun k hk=>by unfold aheadF;have:=extra_bd (hok k hk);split <;> omega⟩
section
open Go.RowKit
attribute [local go_sem ↓] Go.wp_at_zero Go.wp_at_succ
def cmp3 (a b:Int):Int:=if a < b then -1 else if b < a then 1 else 0
theorem nan_any (a:Int) (w:World):Calls Tryz.prog 112 #[.int .i64 a] w fun e w'=>e = .returned (.bool false) ∧ w = w':=by
 go_enter Tryz.func112,Tryz.ntmps112
 go_wp2
 go_ret
 exact ⟨by simp,rfl⟩
theorem compare_any (a b:Int) (w:World):Calls Tryz.prog 81 #[.int .i64 a,.int .i64 b] w fun e w'=>e = .returned (.int .i64 (cmp3 a b)) ∧ w = w':=by
 unfold cmp3
 by_cases h1:a < b
 ·rw [if_pos h1]
  go_enter Tryz.func81,Tryz.ntmps81
  go_wp2_with (go_at_call 112;refine (nan_any _ _).mono ?_;rintro e w' ⟨rfl,rfl⟩)
  go_ret
  exact ⟨rfl,rfl⟩
 ·rw [if_neg h1]
  by_cases h2:b < a
  ·rw [if_pos h2]
   go_enter Tryz.func81,Tryz.ntmps81
   go_wp2_with (go_at_call 112;refine (nan_any _ _).mono ?_;rintro e w' ⟨rfl,rfl⟩)
   go_ret
   exact ⟨rfl,rfl⟩
  ·rw [if_neg h2]
   go_enter Tryz.func81,Tryz.ntmps81
   go_wp2_with (go_at_call 112;refine (nan_any _ _).mono ?_;rintro e w' ⟨rfl,rfl⟩)
   go_ret
   exact ⟨rfl,rfl⟩
def orL:List Int → Int
 | []=>0
 | x :: l=>if x = 0 then orL l else x
theorem orL_drop (l:List Int) (k:Nat) (h:∀ j (hj:j < l.length),j < k → l[j] = 0):orL l = orL (l.drop k):=by
 induction k generalizing l with
 | zero=>rfl
 | succ k ih =>
  cases l with
  | nil=>rfl
  | cons x l =>
   have hx:x = 0:=h 0 (by simp) (by omega)
   simp only [orL,hx,if_true,List.drop_succ_cons]
   exact ih l fun j hj hk=>h (j + 1) (by simp;omega) (by omega)
theorem or_any (b n:Nat) (l:List Int) (w:World) (hl:l.length = n) (hn:n ≤ 100) (hc:∀ j (h:j < l.length),w.cell? ⟨b,j,none⟩ = some (.int .i64 l[j])) :
  Calls Tryz.prog 187 #[.slice (some ⟨b,0,none⟩) n n] w fun e w'=>e = .returned (.int .i64 (orL l)) ∧ w = w':=by
 have HC:=Lib.hid hc;clear hc
 go_enter Tryz.func187,Tryz.ntmps187
 go_wp2_with fail
 go_loop [8] (fun i=>∃ k:Nat,k ≤ n ∧ i = .int .i64 k ∧ Hid (∀ j (hj:j < l.length),j < k → l[j] = 0)) (fun i=>n - (intOf i).toNat)
 case atStart=>exact ⟨0,by omega,rfl,fun j hj hk=>by omega⟩
 case round =>
  obtain ⟨k,hk,rfl,HH⟩:=hrel
  by_cases hlt:k < n
  ·have hcell:=HC.out k (by omega)
   obtain ⟨x,hx⟩:∃ x,l[k] = x:=⟨_,rfl⟩
   rw [hx] at hcell
   have Hx:=Lib.hid hx;clear hx
   have hkI:(k:Int) < (n:Int):=by omega
   by_cases h0:x = 0
   ·subst h0
    have HN:Hid (∀ j (hj:j < l.length),j < k + 1 → l[j] = 0):=by
     intro j hj hjk
     rcases Nat.lt_or_ge j k with h | h
     ·exact HH.out j hj h
     ·obtain rfl:j = k:=by omega
      exact Hx.out
    go_wp2_with fail
    go_round
    case rel=>exact ⟨k + 1,by omega,by go_num,HN⟩
    case measure=>simp [intOf];omega
   ·have hxn:(x != 0) = true:=by simp [h0]
    have E:Hid (orL l = x):=by
     show _ = _
     rw [orL_drop l k HH.out,List.drop_eq_getElem_cons (by omega),Hx.out]
     simp [orL,h0]
    clear h0
    go_wp2_with fail
    go_ret
    exact ⟨ret_int E.out.symm,rfl⟩
  ·obtain rfl:k = n:=by omega
   have E:Hid (orL l = 0):=by
    show _ = _
    rw [orL_drop l k HH.out,List.drop_eq_nil_of_le (by omega)];rfl
   go_wp2_with fail
   go_ret
   exact ⟨ret_int E.out.symm,rfl⟩
def cmpK (x y:Q):Int:=orL [cmp3 x.1 y.1,cmp3 x.2.1 y.2.1,cmp3 x.2.2.1 y.2.2.1,cmp3 x.2.2.2 y.2.2.2]
theorem cmpK_any (x y:Q) (w:World):Calls Tryz.prog 149 #[qv x,qv y] w fun e w'=>e = .returned (.int .i64 (cmpK x y)) ∧ ∃ q os',w' = Sort.grow (w.drewN q) os':=by
 obtain ⟨x0,x1,x2,x3⟩:=x
 obtain ⟨y0,y1,y2,y3⟩:=y
 unfold cmpK qv
 simp only
 have H1:=Lib.hid (fun w=>compare_any x0 y0 w)
 have H2:=Lib.hid (fun w=>compare_any x1 y1 w)
 have H3:=Lib.hid (fun w=>compare_any x2 y2 w)
 have H4:=Lib.hid (fun w=>compare_any x3 y3 w)
 generalize cmp3 x0 y0 = u0 at *
 generalize cmp3 x1 y1 = u1 at *
 generalize cmp3 x2 y2 = u2 at *
 generalize cmp3 x3 y3 = u3 at *
 obtain ⟨R,hR⟩:∃ R,orL [u0,u1,u2,u3] = R:=⟨_,rfl⟩
 rw [hR]
 have HO:Hid (∀ (W:World) (b:Nat),(∀ j u,[Value.int .i64 u0,Value.int .i64 u1,Value.int .i64 u2,Value.int .i64 u3][j]? = some u → W.cell? ⟨b,j,none⟩ = some u) → Calls Tryz.prog 187 #[.slice (some ⟨b,0,none⟩) 4 4] W fun e w'=>e = .returned (.int .i64 R) ∧ W = w'):=by
  intro W b hc
  rw [← hR]
  refine or_any b 4 [u0,u1,u2,u3] _ rfl (by omega) fun j hj=>?_
  refine hc j _ ?_
  have:j = 0 ∨ j = 1 ∨ j = 2 ∨ j = 3:=by simp at hj;omega
  rcases this with rfl | rfl | rfl | rfl <;> rfl
 clear hR
 go_enter Tryz.func149,Tryz.ntmps149
 go_wp2_with fail
 go_region_held3 (fun w'=>(w'.cell? ⟨w.heap.size,0,none⟩ = some (.int .i64 x0) ∧ w'.cell? ⟨w.heap.size,1,none⟩ = some (.int .i64 x1) ∧ w'.cell? ⟨w.heap.size,2,none⟩ = some (.int .i64 x2) ∧ w'.cell? ⟨w.heap.size,3,none⟩ = some (.int .i64 x3)) ∧ w'.cell? ⟨w.heap.size + 1,0,none⟩ = some (.int .i64 y0) ∧ w'.cell? ⟨w.heap.size + 1,1,none⟩ = some (.int .i64 y1) ∧ w'.cell? ⟨w.heap.size + 1,2,none⟩ = some (.int .i64 y2) ∧ w'.cell? ⟨w.heap.size + 1,3,none⟩ = some (.int .i64 y3)) (go_keep)
  (first | (go_at_call 81;(first | ((with_reducible refine (H1.out _).mono ?_);rintro e w1 ⟨rfl,rfl⟩) | ((with_reducible refine (H2.out _).mono ?_);rintro e w1 ⟨rfl,rfl⟩) | ((with_reducible refine (H3.out _).mono ?_);rintro e w1 ⟨rfl,rfl⟩) | ((with_reducible refine (H4.out _).mono ?_);rintro e w1 ⟨rfl,rfl⟩))) | (go_at_call 187;refine Calls.mono (HO.out _ _ ?_) ?_;(intro j u hu;exact cell_newb _ _ _ _ j u (by simp) hu);rintro e w1 ⟨rfl,rfl⟩))
 go_wp2_with fail
 go_ret
 exact ⟨rfl,1,#[.cells #[.int .i64 x0,.int .i64 x1,.int .i64 x2,.int .i64 x3] 166,.cells #[.int .i64 y0,.int .i64 y1,.int .i64 y2,.int .i64 y3] 166,.cells #[.int .i64 u0,.int .i64 u1,.int .i64 u2,.int .i64 u3] 3],by simp only [Sort.alloc_eq_grow,Sort.grow_grow];rfl⟩
end
end Go.Proofs.YtnoahekcemfmcaaGreatDoor
