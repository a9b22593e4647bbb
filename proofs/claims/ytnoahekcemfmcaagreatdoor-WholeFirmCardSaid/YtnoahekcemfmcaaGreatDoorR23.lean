/- A part of the walk: Xf Xg. -/
import Derived.Test.YtnoahekcemfmcaaGreatDoorR22
import Derived.Test.YtnoahekcemfmcaaGreatDoorR04
namespace Go.Proofs.YtnoahekcemfmcaaGreatDoor
set_option linter.unusedVariables false
set_option linter.unusedSimpArgs false
set_option maxHeartbeats 80000000
set_option maxRecDepth 100000
section
open Go.RowKit
section
variable {B n:Nat} {A:XFix} {bu:Int} {tk:Nat → Tk} {w w':World} {s:St} {out:List Ev} {Mx:Nat} {col:Nat → Nat} {F:Nat → Prop} {hm:List Q} {so:Value} {jbk:Nat → Nat} {gs:List Gate} {kj:Nat → Option Jb} {T:Nat → Prop}
theorem hasx_any (i:Int) (f1:w.cell? ⟨A.x,1,none⟩ = some (.slice (some ⟨A.tb,0,none⟩) n A.tc)) :
  Calls Tryz.prog 61 #[.pointer (some ⟨A.x,0,none⟩),.int .i64 i] w fun e w'=>e = .returned (.bool (decide (0 ≤ i ∧ i < n))) ∧ w' = w:=by
 by_cases h0:0 ≤ i
 ·have hd0:decide (i ≥ 0) = true:=decide_eq_true h0
  have e:decide (0 ≤ i ∧ i < (n:Int)) = decide (i < (n:Int)):=by rw [decide_eq_decide];omega
  rw [e]
  go_enter Tryz.func61,Tryz.ntmps61
  go_wp2
  go_ret
  exact ⟨rfl,rfl⟩
 ·have hd0:decide (i ≥ 0) = false:=decide_eq_false h0
  have e:decide (0 ≤ i ∧ i < (n:Int)) = false:=decide_eq_false (by omega)
  rw [e]
  go_enter Tryz.func61,Tryz.ntmps61
  go_wp2
  go_ret
  exact ⟨rfl,rfl⟩
theorem rel_none (h:XW B A bu n tk w s out Mx col F hm so jbk gs kj) (i d:Int) (hi:i < 0 ∨ (n:Int) ≤ i) :
  Calls Tryz.prog 40 #[.pointer (some ⟨A.x,0,none⟩),.agg #[.int .i64 i,.int .i64 d]] w fun e w'=>e = .returned (.tuple #[]) ∧ XW B A bu n tk w' s out Mx col F hm so jbk gs kj ∧ XR col w col w':=by
 have hb:=bel_alloc (Below.refl w.heap.size w) (.cells #[.int .i64 i,.int .i64 d] 79)
 have hW:=Lib.hid (h.below hb)
 have HH:=Lib.hid (hasx_any (A:=A) (n:=n) i (h.below hb).f.f1)
 have hd:decide (0 ≤ i ∧ i < (n:Int)) = false:=decide_eq_false (by omega)
 have HR:=Lib.hid (XR.of_below (col:=col) hb)
 have b0:=cell_newb w #[.int .i64 i,.int .i64 d] 79 _ 0 _ rfl rfl
 rw [hd] at HH
 clear h hb hd
 go_enter Tryz.func40,Tryz.ntmps40
 go_wp2_with (go_at_call 61;refine HH.out.mono ?_;rintro e w1 ⟨rfl,rfl⟩)
 first | go_end0 | refine bodyPost_ret (results_none rfl _ _ _) rfl ?_
 exact ⟨rfl,hW.out,HR.out⟩
theorem XW.guard1 (h:XW B A bu n tk w s out Mx col F hm so jbk gs kj) (hMx:Mx < 1000000) (hf:Fr (fun k=>k = A.gq) w w') (hg:GuardAt w' A.gp A.gq A.gc (Mx + 1) gs):XW B A bu n tk w' s out (Mx + 1) col F hm so jbk gs kj ∧ XR col w col w':=by
 have cc:=h.c
 have h16:=cc.n16
 have ne:∀ {k c:Nat},col k = c → c ≠ 3 → ¬ k = A.gq:=fun e hc=>col_ne e cc.g.2 hc
 have lt:∀ {k c:Nat},col k = c → c ≠ 0 → k < w.heap.size:=fun e hc=>(h.c.lt _ (by rw [e];exact hc)).2
 have h2:=h.mxle (M2:=Mx + 1) (by omega) (by omega)
 refine ⟨⟨h.f.keep hf (ne cc.x (by omega)),fun j hj=>rg_fr hf (lt cc.tb (by omega)) (ne cc.tb (by omega)) (h.tsk j hj),
  h.jb.keep hf (lt cc.jb (by omega)) (ne cc.jb (by omega)) (fun i J hi e=>⟨lt (cc.j i J hi e) (by omega),ne (cc.j i J hi e) (by omega)⟩),
  h2.sk.keep hf (lt cc.sb (by omega)) (ne cc.sb (by omega)) (fun i hi=>⟨ne (cc.sk i hi).1 (by omega),ne (cc.sk i hi).2.1 (by omega),ne (cc.sk i hi).2.2.1 (by omega),ne (cc.sk i hi).2.2.2 (by omega)⟩),
  h.hp.keep hf (fun k hk=>ne (cc.hp k hk) (by omega)),hg,?_,
  ownsRow_keep h.o (fun k hk=>hf.block k (lt (cc.o k hk) (by omega)) (ne (cc.o k hk) (by omega))),{ cc with lt:=fun k hk=>⟨(cc.lt k hk).1,Nat.lt_of_lt_of_le (cc.lt k hk).2 hf.size⟩ },h.gl,h.ga,h.hk,h.ok,h2.jk,h.no,by omega⟩,
  XR.of_fr hf (fun k e=>by rw [e,cc.g.2];omega)⟩
 obtain ⟨f,m,ef,tf,a⟩:=h.t
 exact ⟨f,m,ef,tf,a.keep hf (ne cc.t.1 (by omega)) (ne cc.t.2.1 (by omega)) (ne cc.t.2.2 (by omega))⟩
theorem go_early {gs:List Gate} {i:Nat} {t:Int} (hi:i < gs.length) (h0:0 ≤ t) (h1:t ≤ 1099511627776) (ho:t < gs[i].opn):goStep gs i t = (6,gs):=by
 unfold goStep
 rw [if_neg (by omega),if_pos (by simpa [List.getD_eq_getElem?_getD,hi] using ho)]
theorem go_good {gs:List Gate} {i:Nat} {t:Int} (hi:i < gs.length) (h0:0 ≤ t) (h1:t ≤ 1099511627776) (ho:gs[i].opn ≤ t):goStep gs i t = (0,gs.set i { gs[i] with opn:=t + gs[i].apart,count:=gs[i].count + 1 }):=by
 have e:gs.getD i default = gs[i]:=by simp [List.getD_eq_getElem?_getD,hi]
 unfold goStep
 rw [if_neg (by omega),Int.toNat_natCast,e,if_neg (by omega)]
theorem count_at {gs:List Gate} {i:Nat} (hi:i < gs.length):countF gs i = gs[i].count:=by
 unfold countF
 rw [if_pos (by omega)]
 simp [List.getD_eq_getElem?_getD,hi]
theorem rel_early (h:XW B A bu n tk w s out Mx col F hm so jbk gs kj) (i:Nat) (d:Int) (hi:i < n) (hoe:(s.now:Int) < s.opn i) (ho:out.length ≤ 100000000) (hMx:Mx < 1000000) :
  Calls Tryz.prog 40 #[.pointer (some ⟨A.x,0,none⟩),.agg #[.int .i64 i,.int .i64 d]] w fun e w'=>e = .returned (.tuple #[]) ∧ ∃ col' so',XW B A bu n tk w' s (out ++ [⟨s.now,2,i,s.cnt i,2⟩]) (Mx + 1) col' F hm so' jbk gs kj ∧ XR col w col' w':=by
 have hb:=bel_alloc (Below.refl w.heap.size w) (.cells #[.int .i64 i,.int .i64 d] 79)
 have hW0:=h.below hb
 have hW:=Lib.hid hW0
 have HH:=Lib.hid (hasx_any (A:=A) (n:=n) (i:Int) hW0.f.f1)
 have hd:decide (0 ≤ (i:Int) ∧ (i:Int) < (n:Int)) = true:=decide_eq_true (by omega)
 have HR:=Lib.hid (XR.of_below (col:=col) hb)
 rw [hd] at HH
 have hig:i < gs.length:=by rw [h.gl];exact hi
 have HC:=Lib.hid (count_is hW0.g (count_at hig))
 have hga:=h.ga i hig
 rw [hga.2.2] at HC
 have HG:=Lib.hid (fun W (hg:GuardAt W A.gp A.gq A.gc Mx gs)=>go_is (go_early hig (by omega) (by have:=h.no;omega) (by rw [hga.2.1];exact hoe)) hg (by omega) (t:=(s.now:Int)))
 have f6:=hW0.f.f6
 have f2:=hW0.f.f2
 have hn16:=h.c.n16
 have b0:=cell_newb w #[.int .i64 (i:Int),.int .i64 d] 79 _ 0 _ rfl rfl
 clear h hb hd hW0 hga
 go_enter Tryz.func40,Tryz.ntmps40
 go_wp2_with (first | (go_at_call 61;refine HH.out.mono ?_;rintro e w1 ⟨rfl,rfl⟩) | (go_at_call 62;refine HC.out.mono ?_;rintro e w2 ⟨rfl,rfl⟩))
 generalize w.alloc (.cells #[.int .i64 (i:Int),.int .i64 d] 79) = w1 at *
 have HD1:=hW.out.keep (T:=fun _=>False) ((Fr.refl _ w1).drew) (fun _ h=>h.elim)
 refine wp_region_held_drew (S:=(fun w'=>w'.cell? ⟨A.x,6,none⟩ = some (.pointer (some ⟨A.gp,0,none⟩)) ∧ w'.cell? ⟨A.x,2,none⟩ = some (.int .i64 s.now))) (by kernel_rfl) ?hS0 (fun hHeld=>?_)
 case hS0=>(try dsimp only);exact ⟨HD1.f.f6,HD1.f.f2⟩
 refine wtk (i:=0) ?_
 try simp only [Act.put,List.setIfInBounds_toArray,List.set]
 refine wtk (i:=1) ?_
 try simp only [Act.put,List.setIfInBounds_toArray,List.set]
 refine wtk (i:=2) ?_
 try simp only [Act.put,List.setIfInBounds_toArray,List.set]
 refine wtk (i:=3) ?_
 try simp only [Act.put,List.setIfInBounds_toArray,List.set]
 refine wtk (i:=4) ?_
 try simp only [Act.put,List.setIfInBounds_toArray,List.set]
 refine wtk (i:=5) ?_
 try simp only [Act.put,List.setIfInBounds_toArray,List.set]
 refine wtk (i:=6) ?_
 try simp only [Act.put,List.setIfInBounds_toArray,List.set]
 refine wtk (i:=7) ?_
 try simp only [Act.put,List.setIfInBounds_toArray,List.set]
 refine wtk (i:=8) ?_
 try simp only [Act.put,List.setIfInBounds_toArray,List.set]
 refine wpAnyH_ready (rs:=[9]) (by kernel_rfl) (by simp) ?_
 refine arc (fun K hK=>?_) AllReadyH.nil
 go_simp;go_at_call 63;refine Calls.mono (HG.out _ HD1.g) ?_;rintro e w3 ⟨rfl,hg3,hf3⟩;obtain ⟨HW3,HR3⟩:=HD1.guard1 hMx hf3 hg3
 refine hK.out _ _ ?hS10 (fun hHeld2=>?hr10)
 case hS10=>(try dsimp only);exact ⟨HW3.f.f6,HW3.f.f2⟩
 clear hK K hHeld
 have hHeld:=hHeld2
 clear hHeld2
 try simp only [Act.put,List.setIfInBounds_toArray,List.set]
 refine wtk (i:=10) ?_
 try simp only [Act.put,List.setIfInBounds_toArray,List.set]
 refine wpAnyH_done (by kernel_rfl) ?_ _
 have HS:=Lib.hid (say_is HW3 2 i (s.cnt i) 2 (by omega) (by omega) (by omega) ho)
 have HR3':=Lib.hid ((HR.out.trans (XR.of_fr (T:=fun _=>False) ((Fr.refl _ w1).drew) (fun _ h=>h.elim))).trans HR3)
 clear HW3 HR3 HD1 hHeld hg3 hf3 f6 f2
 go_wp2_with (go_at_call 64;refine HS.out.mono ?_;rintro e w4 ⟨rfl,col4,so4,HW4,HR4⟩)
 first | go_end0 | refine bodyPost_ret (results_none rfl _ _ _) rfl ?_
 exact ⟨rfl,col4,so4,HW4,HR3'.out.trans HR4⟩
end
end
section
open Go.RowKit
section
variable {B n:Nat} {A:XFix} {bu:Int} {tk:Nat → Tk} {w w':World} {s:St} {out:List Ev} {Mx:Nat} {col:Nat → Nat} {F:Nat → Prop} {hm:List Q} {so:Value} {jbk:Nat → Nat} {gs:List Gate} {kj:Nat → Option Jb} {T:Nat → Prop}
theorem XW.guard2 (h:XW B A bu n tk w s out Mx col F hm so jbk gs kj) (hMx:Mx < 1000000) {i:Nat} (hi:i < gs.length) (hf:Fr (fun k=>k = A.gq) w w')
  (hg:GuardAt w' A.gp A.gq A.gc (Mx + 1) (gs.set i { gs[i] with opn:=(s.now:Int) + gs[i].apart,count:=gs[i].count + 1 })) :
  XW B A bu n tk w' { s with opn:=upd s.opn i ((s.now:Int) + (tk i).T),cnt:=upd s.cnt i (s.cnt i + 1) } out (Mx + 1) col F hm so jbk (gs.set i { gs[i] with opn:=(s.now:Int) + gs[i].apart,count:=gs[i].count + 1 }) kj ∧ XR col w col w':=by
 have cc:=h.c
 have h16:=cc.n16
 have ne:∀ {k c:Nat},col k = c → c ≠ 3 → ¬ k = A.gq:=fun e hc=>col_ne e cc.g.2 hc
 have lt:∀ {k c:Nat},col k = c → c ≠ 0 → k < w.heap.size:=fun e hc=>(h.c.lt _ (by rw [e];exact hc)).2
 have h2:=h.mxle (M2:=Mx + 1) (by omega) (by omega)
 refine ⟨⟨h.f.keep hf (ne cc.x (by omega)),fun j hj=>rg_fr hf (lt cc.tb (by omega)) (ne cc.tb (by omega)) (h.tsk j hj),
  h.jb.keep hf (lt cc.jb (by omega)) (ne cc.jb (by omega)) (fun i J hi e=>⟨lt (cc.j i J hi e) (by omega),ne (cc.j i J hi e) (by omega)⟩),
  h2.sk.keep hf (lt cc.sb (by omega)) (ne cc.sb (by omega)) (fun i hi=>⟨ne (cc.sk i hi).1 (by omega),ne (cc.sk i hi).2.1 (by omega),ne (cc.sk i hi).2.2.1 (by omega),ne (cc.sk i hi).2.2.2 (by omega)⟩),
  h.hp.keep hf (fun k hk=>ne (cc.hp k hk) (by omega)),hg,?_,
  ownsRow_keep h.o (fun k hk=>hf.block k (lt (cc.o k hk) (by omega)) (ne (cc.o k hk) (by omega))),{ cc with lt:=fun k hk=>⟨(cc.lt k hk).1,Nat.lt_of_lt_of_le (cc.lt k hk).2 hf.size⟩ },by rw [List.length_set];exact h.gl,fun k hk=>?_,h.hk,h.ok,h2.jk,h.no,by omega⟩,
  XR.of_fr hf (fun k e=>by rw [e,cc.g.2];omega)⟩
 ·obtain ⟨f,m,ef,tf,a⟩:=h.t
  exact ⟨f,m,ef,tf,a.keep hf (ne cc.t.1 (by omega)) (ne cc.t.2.1 (by omega)) (ne cc.t.2.2 (by omega))⟩
 ·rw [List.length_set] at hk
  have hai:=h.ga i hi
  by_cases hki:k = i
  ·subst hki
   rw [List.getElem_set_self]
   exact ⟨hai.1,by rw [hai.1];exact (upd_self _ _ _).symm,by rw [hai.2.2];exact (upd_self _ _ _).symm⟩
  ·rw [List.getElem_set_ne (Ne.symm hki)]
   have hak:=h.ga k hk
   exact ⟨hak.1,by rw [hak.2.1];exact (upd_ne _ _ hki).symm,by rw [hak.2.2];exact (upd_ne _ _ hki).symm⟩
theorem XW.rel2 (h:XW B A bu n tk w s out Mx col F hm so jbk gs s.job) {i:Nat} (hi:i < n) (hn:s.job i = none) (J:Jb) (hJ:JbOk (tk i) J ∧ 0 ≤ J.fails ∧ J.fails ≤ Mx ∧ J.left ≤ 2147483648 ∧ J.rel ≤ s.now) {b:Nat} (hc0:col b = 0) (hbB:B ≤ b) (hbl:b < w.heap.size)
  (hrg:w.rangeAt b 0 (jbc i (tk i) J)) (hth:w.there b 0 23) {w8 w9:World} (hb8:Below (w.setCell ⟨A.jb,i,none⟩ (.pointer (some ⟨b,0,none⟩))).heap.size (w.setCell ⟨A.jb,i,none⟩ (.pointer (some ⟨b,0,none⟩))) w8)
  {F':Nat → Prop} {hm':List Q} (hp:HH B w9 A.ph F' n hm') (hF':∀ j,F' j → F j ∨ w8.heap.size ≤ j) (hf9:Fr F w8 w9) (hk':∀ q,q ∈ hm' ↔ q = keyJ tk i J ∨ q ∈ hm) :
  ∃ col',XW B A bu n tk w9 { s with job:=upd s.job i (some J) } out Mx col' F' hm' so (upd jbk i b) gs (upd s.job i (some J)) ∧ Fr (fun k=>col k ≠ 0) w w9 ∧ ∀ k,k < w.heap.size → k ≠ b → col k = 0 → col' k = 0:=by
 have cc:=h.c
 have h16:=cc.n16
 have hs8:w.heap.size ≤ w8.heap.size:=by have:=hb8.size;simpa using this
 have hT:Fr (fun k=>k = A.jb ∨ F k) w w9 :=
  ((((Fr.refl (fun k=>k = A.jb ∨ F k) w).setCell (p:=⟨A.jb,i,none⟩) (.inl rfl) _).trans (Fr.of_below (S:=fun _=>False) hb8) (fun _ _ h=>h) (fun _ _ h=>h.elim)).trans hf9 (fun _ _ h=>h) (fun _ _ h=>.inr h))
 have ne:∀ {k c:Nat},col k = c → c ≠ 2 → c ≠ 5 → ¬ (k = A.jb ∨ F k):=fun e h2 h5 t=>by
  rcases t with t | t
  ·exact col_ne e cc.jb h5 t
  ·have:=cc.hp _ t;omega
 have lt:∀ {k c:Nat},col k = c → c ≠ 0 → k < w.heap.size:=fun e hc=>(h.c.lt _ (by rw [e];exact hc)).2
 have hnb:∀ {k c:Nat},col k = c → c ≠ 0 → k ≠ b:=fun e hc=>col_ne e hc0 hc
 classical
 have hcol:∀ k,(if k = b then 100 + i else if col k = 0 ∧ F' k then 2 else col k) = col k ∨ col k = 0:=fun k=>by
  by_cases hkb:k = b
  ·right;rw [hkb];exact hc0
  ·rw [if_neg hkb]
   by_cases h2:col k = 0 ∧ F' k
   ·exact .inr h2.1
   ·rw [if_neg h2];exact .inl rfl
 have hkeep:∀ {k c:Nat},col k = c → c ≠ 0 → (if k = b then 100 + i else if col k = 0 ∧ F' k then 2 else col k) = c:=fun {k c} e hc=>by
  rcases hcol k with h | h
  ·rw [h];exact e
  ·omega
 refine ⟨fun k=>if k = b then 100 + i else if col k = 0 ∧ F' k then 2 else col k,⟨h.f.keep hT (ne cc.x (by omega) (by omega)),fun j hj=>rg_fr hT (lt cc.tb (by omega)) (ne cc.tb (by omega) (by omega)) (h.tsk j hj),
  ⟨fun k hk=>?_,fun o=>?_,fun k K hk e=>?_,fun k K hk e=>?_⟩,
  h.sk.keep hT (lt cc.sb (by omega)) (ne cc.sb (by omega) (by omega)) (fun i hi=>⟨ne (cc.sk i hi).1 (by omega) (by omega),ne (cc.sk i hi).2.1 (by omega) (by omega),ne (cc.sk i hi).2.2.1 (by omega) (by omega),ne (cc.sk i hi).2.2.2 (by omega) (by omega)⟩),
  hp,h.g.keep hT (ne cc.g.1 (by omega) (by omega)) (ne cc.g.2 (by omega) (by omega)),?_,
  ownsRow_keep h.o (fun k hk=>hT.block k (lt (cc.o k hk) (by omega)) (ne (cc.o k hk) (by omega) (by omega))),
  ⟨hkeep cc.x (by omega),hkeep cc.tb (by omega),hkeep cc.jb (by omega),hkeep cc.sb (by omega),fun i hi=>⟨hkeep (cc.sk i hi).1 (by omega),hkeep (cc.sk i hi).2.1 (by omega),hkeep (cc.sk i hi).2.2.1 (by omega),hkeep (cc.sk i hi).2.2.2 (by omega)⟩,fun k hk=>?_,⟨hkeep cc.g.1 (by omega),hkeep cc.g.2 (by omega)⟩,⟨hkeep cc.t.1 (by omega),hkeep cc.t.2.1 (by omega),hkeep cc.t.2.2 (by omega)⟩,
   fun k hk=>hkeep (cc.o k hk) (by omega),fun k K hk e=>?_,fun k hk=>?_,h16⟩,h.gl,h.ga,fun q=>?_,h.ok,fun k K hk e=>?_,h.no,h.mx⟩,hT.mono (fun k _ t=>?_),fun k hk hkb e=>?_⟩
 ·
  have hjl:=lt cc.jb (by omega)
  have hr0:(w.setCell ⟨A.jb,i,none⟩ (.pointer (some ⟨b,0,none⟩))).cell? ⟨A.jb,k,none⟩ = some (jptr (upd s.job i (some J) k) (upd jbk i b k)):=by
   by_cases hki:k = i
   ·subst hki
    rw [upd_self,upd_self]
    exact World.cell?_setCell_same _ _ _ (h.jb.row k hk)
   ·rw [upd_ne _ _ hki,upd_ne _ _ hki,World.cell?_setCell_other _ _ _ _ (addr_ne (Ne.symm hki))]
    exact h.jb.row k hk
  have hl0:A.jb < (w.setCell ⟨A.jb,i,none⟩ (.pointer (some ⟨b,0,none⟩))).heap.size:=by simpa using hjl
  have hr8:w8.cell? ⟨A.jb,k,none⟩ = (w.setCell ⟨A.jb,i,none⟩ (.pointer (some ⟨b,0,none⟩))).cell? ⟨A.jb,k,none⟩:=hb8.cell (p:=⟨A.jb,k,none⟩) hl0
  have hr9:w9.cell? ⟨A.jb,k,none⟩ = w8.cell? ⟨A.jb,k,none⟩:=hf9.cell (p:=⟨A.jb,k,none⟩) (Nat.lt_of_lt_of_le hjl hs8) (fun (t:F A.jb)=>by have:=cc.hp _ t;have:=cc.jb;omega)
  exact hr9.trans (hr8.trans hr0)
 ·have hjl:=lt cc.jb (by omega)
  have hl0:A.jb < (w.setCell ⟨A.jb,i,none⟩ (.pointer (some ⟨b,0,none⟩))).heap.size:=by simpa using hjl
  have hr9:w9.frozen? ⟨A.jb,o,none⟩ = w8.frozen? ⟨A.jb,o,none⟩:=hf9.frozen (p:=⟨A.jb,o,none⟩) (Nat.lt_of_lt_of_le hjl hs8) (fun (t:F A.jb)=>by have:=cc.hp _ t;have:=cc.jb;omega)
  have hr8:=(Fr.of_below (S:=fun _=>False) hb8).frozen (p:=⟨A.jb,o,none⟩) hl0 (by simp)
  rw [hr9,hr8,World.frozen?_setCell]
  exact h.jb.z o
 ·have e':upd s.job i (some J) k = some K:=e
  by_cases hki:k = i
  ·subst hki
   rw [upd_self] at e';cases e'
   show w9.rangeAt (upd jbk k b k) 0 _
   rw [upd_self]
   exact rg_fr hT hbl (fun t=>t.elim (fun t=>col_ne hc0 cc.jb (by omega) t) (fun t=>by have:=cc.hp _ t;omega)) hrg
  ·rw [upd_ne _ _ hki] at e'
   show w9.rangeAt (upd jbk i b k) 0 _
   rw [upd_ne _ _ hki]
   have hc:=cc.j k K hk e'
   exact rg_fr hT (lt hc (by omega)) (ne hc (by omega) (by omega)) (h.jb.rg k K hk e')
 ·have e':upd s.job i (some J) k = some K:=e
  by_cases hki:k = i
  ·subst hki
   show w9.there (upd jbk k b k) 0 23
   rw [upd_self]
   exact th_fr hth hT hbl (fun t=>t.elim (fun t=>col_ne hc0 cc.jb (by omega) t) (fun t=>by have:=cc.hp _ t;omega))
  ·rw [upd_ne _ _ hki] at e'
   show w9.there (upd jbk i b k) 0 23
   rw [upd_ne _ _ hki]
   have hc:=cc.j k K hk e'
   exact th_fr (h.jb.th k K hk e') hT (lt hc (by omega)) (ne hc (by omega) (by omega))
 ·obtain ⟨f,m,ef,tf,a⟩:=h.t
  exact ⟨f,m,ef,tf,a.keep hT (ne cc.t.1 (by omega) (by omega)) (ne cc.t.2.1 (by omega) (by omega)) (ne cc.t.2.2 (by omega) (by omega))⟩
 ·
  rcases hF' k hk with t | t
  ·exact hkeep (cc.hp k t) (by omega)
  ·have hkb:k ≠ b:=by omega
   have hk0:col k = 0:=by
    by_cases e:col k = 0
    ·exact e
    ·have:=(cc.lt k e).2;omega
   show (if k = b then 100 + i else if col k = 0 ∧ F' k then 2 else col k) = 2
   rw [if_neg hkb,if_pos ⟨hk0,hk⟩]
 ·have e':upd s.job i (some J) k = some K:=e
  by_cases hki:k = i
  ·subst hki
   show (if upd jbk k b k = b then 100 + k else _) = 100 + k
   rw [upd_self,if_pos rfl]
  ·rw [upd_ne _ _ hki] at e'
   show (if upd jbk i b k = b then 100 + i else if col (upd jbk i b k) = 0 ∧ F' (upd jbk i b k) then 2 else col (upd jbk i b k)) = 100 + k
   rw [upd_ne _ _ hki]
   exact hkeep (cc.j k K hk e') (by omega)
 ·
  by_cases hkb:k = b
  ·rw [hkb];exact ⟨hbB,Nat.lt_of_lt_of_le hbl hT.size⟩
  ·have hk2:(if k = b then 100 + i else if col k = 0 ∧ F' k then 2 else col k) ≠ 0:=hk
   rw [if_neg hkb] at hk2
   by_cases h2:col k = 0 ∧ F' k
   ·have:=hp.flt k h2.2
    exact ⟨this.2,this.1⟩
   ·rw [if_neg h2] at hk2
    exact ⟨(cc.lt k hk2).1,Nat.lt_of_lt_of_le (cc.lt k hk2).2 hT.size⟩
 ·rw [hk',h.hk]
  constructor
  ·rintro (rfl | ⟨k,K,hk,e,rfl⟩)
   ·exact ⟨i,J,hi,upd_self _ _ _,rfl⟩
   ·have hki:k ≠ i:=fun e'=>by subst e';rw [hn] at e;cases e
    exact ⟨k,K,hk,(upd_ne _ _ hki).trans e,rfl⟩
  ·rintro ⟨k,K,hk,e,rfl⟩
   have e':upd s.job i (some J) k = some K:=e
   by_cases hki:k = i
   ·subst hki;rw [upd_self] at e';cases e';exact .inl rfl
   ·rw [upd_ne _ _ hki] at e';exact .inr ⟨k,K,hk,e',rfl⟩
 ·have e':upd s.job i (some J) k = some K:=e
  by_cases hki:k = i
  ·subst hki;rw [upd_self] at e';cases e';exact hJ
  ·rw [upd_ne _ _ hki] at e';exact h.jk k K hk e'
 ·rcases t with t | t
  ·rw [t,cc.jb];omega
  ·rw [cc.hp k t];omega
 ·show (if k = b then 100 + i else if col k = 0 ∧ F' k then 2 else col k) = 0
  rw [if_neg hkb,if_neg]
  ·exact e
  ·rintro ⟨_,t⟩
   rcases hF' k t with t | t
   ·have:=cc.hp k t;omega
   ·omega
end
end
end Go.Proofs.YtnoahekcemfmcaaGreatDoor
