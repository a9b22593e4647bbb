/- A part of the walk: Nc. -/
import Derived.Test.YtnoahekcemfmcaaGreatDoorR47
import Derived.Test.YtnoahekcemfmcaaGreatDoorR37
import Derived.Test.YtnoahekcemfmcaaGreatDoorR20
namespace Go.Proofs.YtnoahekcemfmcaaGreatDoor
set_option linter.unusedVariables false
set_option linter.unusedSimpArgs false
set_option maxHeartbeats 80000000
set_option maxRecDepth 100000
section
open Go.RowKit
theorem respF_pos {nx:Int → Int} {D:Int} (h1:∀ t,0 ≤ t → 1 ≤ nx t) (f:Nat) (t:Int) (ht:0 ≤ t) (h:(respF nx D f t).2 = true):1 ≤ (respF nx D f t).1:=by
 induction f generalizing t with
 | zero=>cases h
 | succ f ih =>
  unfold respF at h ⊢
  split at h
  ·cases h
  ·rename_i h2
   rw [if_neg h2]
   split at h
   ·rename_i h3
    rw [if_pos h3]
    have:=h1 t ht
    show 1 ≤ t
    omega
   ·rename_i h3
    rw [if_neg h3]
    exact ih _ (by have:=h1 t ht;omega) h
section
variable {tk:Nat → Tk} {n:Nat} {bu g:Int}
theorem nextW_pos (hS:SetOk bu n tk) (i:Nat) (hi:i < n) (hg:1 ≤ g) (t:Int) (ht:0 ≤ t):1 ≤ nxF tk n bu i g t:=by
 have h1:=whole_pos (hS.ok i hi)
 have h2:=(ahead_bd hS.ok i).1
 have h3:=(dear_bd hS.ok i).1
 have hb:=hS.b1
 have h4:0 ≤ S (fun k=>if (tk k).Prio < (tk i).Prio then ceilI t (tk k).T * wholeT (tk k) else 0) n:=S_nonneg fun k hk=>by
  split
  ·have hw:=whole_pos (hS.ok k hk)
   have hT:=hS.ok k hk
   refine Int.mul_nonneg ?_ (by omega)
   have h1:=hT.c1;have h2:=hT.cd;have h3:=hT.dt
   unfold ceilI
   exact Int.ediv_nonneg (by omega) (by omega)
  ·omega
 have h5:0 ≤ bu * dearS tk n i * mostI t bu g:=by
  refine Int.mul_nonneg (Int.mul_nonneg (by omega) h3) ?_
  unfold mostI
  split
  ·omega
  ·exact Int.ediv_nonneg (by omega) (by omega)
 unfold nxF nextW
 omega
theorem an_of (hS:SetOk bu n tk) (hg:1 ≤ g) (hj:judgeS tk n bu g = true):∀ i,i < n → An tk n i bu g (respS tk n bu i g).1 (aheadS tk n i) (dearS tk n i):=fun i hi=>by
 have h2:(respS tk n bu i g).2 = true:=by
  unfold judgeS at hj
  rw [List.all_eq_true] at hj
  exact hj i (List.mem_range.2 hi)
 have hf:=respF_fix _ _ h2
 refine ⟨hi,hS.ok,fun k l hk hl hne=>?_,fun k hk hc=>?_,fun k hk hc hm=>?_,(ahead_bd hS.ok i).1,(dear_bd hS.ok i).1,by have:=hS.b1;omega,respF_pos (fun t ht=>nextW_pos hS i hi hg t ht) _ _ (Int.le_refl _) h2,hf.2,hf.1⟩
 ·intro e
  rcases Nat.lt_or_gt_of_ne hne with h | h
  ·have:=hS.pr l k hl h;rw [beq_eq_false_iff_ne] at this;exact this e
  ·have:=hS.pr k l hk h;rw [beq_eq_false_iff_ne] at this;exact this e.symm
 ·have:=le_maxS (f:=dearF tk i) hk
  unfold dearF at this
  rw [if_pos hc] at this
  exact this
 ·have:=le_maxS (f:=aheadF tk i) hk
  unfold aheadF at this
  rw [if_pos ⟨hc,hm⟩] at this
  exact this
theorem made_run (hS:SetOk bu n tk) (hg:1 ≤ g) (wide:Int) (hw:g ≤ wide) (hj:judgeS tk n bu g = true) (A:List AskT) (hAb:∀ x ∈ A,0 ≤ x.2.1) (calm:Prop) (hcalm:calm → ∀ x ∈ A,x.2.2 = false) {s:St} {ev:List Ev} (ht:Ticks tk n (St0 tk) (madeT tk n bu wide A A.length) s ev) :
  (∃ R ahead dear σ,(∀ i,R i = (respS tk n bu i g).1) ∧ (∀ i,i < n → An tk n i bu g (R i) (ahead i) (dear i)) ∧ Good tk n R ahead dear σ calm 1 s ∧ TI n R s ev) ∧ s.now = A.length ∧ MI calm ev ∧ FI tk n s ev:=by
 have hL:Legal (mhit bu wide fun j=>(askAt A j).2.2) bu g:=by
  have h:=legal_made bu wide (fun j=>(askAt A j).2.2) hS.b1 (by omega)
  intro t0 t htt
  refine Int.le_trans (h t0 t htt) ?_
  refine Int.mul_le_mul_of_nonneg_left ?_ (by have:=hS.b1;omega)
  unfold mostI
  split
  ·omega
  ·rename_i hne
   have hb:=hS.b1
   have hx:0 ≤ (t:Int) - t0 + bu - 1:=by omega
   rw [show (t:Int) - t0 + bu - 1 + wide - 1 = (t:Int) - t0 + bu - 1 - 1 + wide * 1 by omega,show (t:Int) - t0 + bu - 1 + g - 1 = (t:Int) - t0 + bu - 1 - 1 + g * 1 by omega,Int.add_mul_ediv_left _ _ (by omega),Int.add_mul_ediv_left _ _ (by omega)]
   have hy:0 ≤ (t:Int) - t0 + bu - 1 - 1:=by omega
   have h1:((t:Int) - t0 + bu - 1 - 1) / wide ≤ ((t:Int) - t0 + bu - 1 - 1) / g:=by
    have h0:0 ≤ ((t:Int) - t0 + bu - 1 - 1) / wide:=Int.ediv_nonneg hy (by omega)
    refine Int.le_ediv_of_mul_le (by omega) ?_
    exact Int.le_trans (Int.mul_le_mul_of_nonneg_left hw h0) (Int.ediv_mul_le _ (by omega))
   omega
 have hW:=whole_trace (R:=fun i=>(respS tk n bu i g).1) (ahead:=aheadS tk n) (dear:=dearS tk n) (calm:=calm) (an_of hS hg hj) hS.ok hL (fun hc t=>by
  have:(askAt A t).2.2 = false:=by
   unfold askAt
   rw [List.getD_eq_getElem?_getD]
   cases h:A[t]? with
   | none=>rfl
   | some x=>exact hcalm hc x (List.mem_of_getElem? h)
  unfold mhit mstep
  simp [this]) ht (fun x hx r hr k hk e=>by
   obtain ⟨j,hj2,rfl⟩:=List.getElem_of_mem hx
   rw [madeT_at] at hr
   obtain ⟨i,hi,rfl,_⟩:=relK_mem hr
   have hik:i = k:=by have:(i:Int) = (k:Int):=e;omega
   subst hik
   refine (demB_bd (hS.ok i hi).c1 _ ?_).2
   have hjA:j < A.length:=by rw [madeT_len] at hj2;exact hj2
   unfold askAt
   rw [List.getD_eq_getElem?_getD,List.getElem?_eq_getElem hjA]
   exact hAb _ (List.getElem_mem hjA)) (fun j hj2=>by rw [madeT_at])
 obtain ⟨h1,h2,h3,h4,h5⟩:=hW
 rw [madeT_len] at h2
 exact ⟨⟨_,_,_,_,fun i=>rfl,an_of hS hg hj,h1,h3⟩,h2,h4,h5⟩
end
theorem kind_is (b:Bool) (w:World):Calls Tryz.prog 12 #[.bool b] w fun e w'=>e = .returned (.int .i64 (if b = true then 2 else 1)) ∧ w' = w:=by
 go_enter Tryz.func12,Tryz.ntmps12
 cases b
 ·go_wp2_with fail
  go_ret
  exact ⟨rfl,rfl⟩
 ·go_wp2_with fail
  go_ret
  exact ⟨rfl,rfl⟩
end
end Go.Proofs.YtnoahekcemfmcaaGreatDoor
