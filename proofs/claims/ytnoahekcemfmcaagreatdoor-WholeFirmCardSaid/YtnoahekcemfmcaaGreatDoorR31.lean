/- A part of the walk: Xu. -/
import Derived.Test.YtnoahekcemfmcaaGreatDoorR30
namespace Go.Proofs.YtnoahekcemfmcaaGreatDoor
set_option linter.unusedVariables false
set_option linter.unusedSimpArgs false
set_option maxHeartbeats 80000000
set_option maxRecDepth 100000
section
open Go.RowKit
section
variable {w W w':World} {n:Nat} {tk:Nat → Tk} {bu:Int} {a:Option Addr} {c x tb tc jb jc:Nat} {av sv:Value} {col:Nat → Nat} {sk sz sp sq:Nat → Nat}
theorem eq97 (w:World):(Op.equalIn 10000 97 (.agg #[.int .i64 0,.int .i64 0,.int .i64 0]) (.agg #[.int .i64 0,.int .i64 0,.int .i64 0])).run Tryz.prog w = .ok true w:=by
 first
  | rfl
  | kernel_rfl
def Ts (tk:Nat → Tk) (n:Nat):List Int:=(List.range n).map fun i=>(tk i).T
theorem Ts_len (tk:Nat → Tk) (n:Nat):(Ts tk n).length = n:=by simp [Ts]
theorem Ts_get (tk:Nat → Tk) (n i:Nat) (h:i < (Ts tk n).length):(Ts tk n)[i] = (tk i).T:=by simp [Ts]
theorem Ts_good (tk:Nat → Tk) (n:Nat) (hn:1 ≤ n) (hn2:n ≤ 16) (h:∀ i,i < n → (tk i).Ok):badNew n (Ts tk n) = false:=by
 unfold badNew
 rw [decide_eq_false (by omega),Bool.false_or,List.any_eq_false]
 intro y hy
 unfold Ts at hy
 rw [List.mem_map] at hy
 obtain ⟨i,hi,rfl⟩:=hy
 have ht:=h i (List.mem_range.1 hi)
 have:=ht.c1;have:=ht.cd;have:=ht.dt;have:=ht.tm
 simp [wrongN]
 omega
theorem NewL.ints (h:NewL w n n tk bu a c x tb tc jb jc av sv col sk sz sp sq W) (h0:0 < n):∃ ga ca,av = .slice (some ⟨ga,0,none⟩) n ca ∧ IntsIn W.heap.size W (some ⟨ga,0,none⟩) n (Ts tk n):=by
 obtain ⟨ga,ca,rfl⟩:=own_some h.ap h0
 refine ⟨ga,ca,rfl,Ts_len tk n,fun _=>⟨ga,0,rfl,(h.ap.lt ga rfl).2,fun j hj=>?_⟩⟩
 rw [Ts_len] at hj
 have:=h.ap.cells (g:=ga) rfl j (.int .i64 (tk j).T) (by rw [List.getElem?_map,List.getElem?_range hj];rfl)
 rw [add_none] at this
 rw [Ts_get]
 exact this
structure XP (W:World) (x be:Nat) (ch:Nat → Option Value) (V:World):Prop where
 fr:Fr (fun q=>q = x) W V
 xc:∀ o,V.cell? ⟨x,o,none⟩ = match ch o with | some v=>some v | none=>W.cell? ⟨x,o,none⟩
 xz:∀ o,V.frozen? ⟨x,o,none⟩ = false
 ec:∀ i,i < 3 → V.cell? ⟨be,i,none⟩ = some (.int .i64 0)
 ez:∀ i,V.frozen? ⟨be,i,none⟩ = false
 xl:x < W.heap.size
 el:W.heap.size ≤ be ∧ be < V.heap.size
theorem XP.below {x be:Nat} {ch:Nat → Option Value} {V V':World} (h:XP W x be ch V) (hb:Below V.heap.size V V'):XP W x be ch V' :=
 ⟨h.fr.trans (T:=fun _=>False) (Fr.of_below hb) (fun _ _ t=>t) (fun _ _ t=>t.elim),fun o=>((Fr.of_below (S:=fun _=>False) hb).cell (p:=⟨x,o,none⟩) (Nat.lt_of_lt_of_le h.xl h.fr.size) (fun t=>t)).trans (h.xc o),fun o=>((Fr.of_below (S:=fun _=>False) hb).frozen (p:=⟨x,o,none⟩) (Nat.lt_of_lt_of_le h.xl h.fr.size) (fun t=>t)).trans (h.xz o),
  fun i hi=>cell_bel hb (h.ec i hi),fun i=>((Fr.of_below (S:=fun _=>False) hb).frozen (p:=⟨be,i,none⟩) h.el.2 (fun t=>t)).trans (h.ez i),h.xl,h.el.1,Nat.lt_of_lt_of_le h.el.2 hb.size⟩
theorem XP.two {x be:Nat} {ch:Nat → Option Value} {V:World} (h:XP W x be ch V) (o i:Nat) (v:Value) (hi:i < 3) {u:Value} (ho:V.cell? ⟨x,o,none⟩ = some u) :
  XP W x be (fun k=>if k = o then some v else ch k) ((V.setCell ⟨x,o,none⟩ v).setCell ⟨be,i,none⟩ (.int .i64 0)):=by
 have hne:be ≠ x:=by have:=h.xl;have:=h.el;omega
 refine ⟨?_,fun k=>?_,fun k=>by rw [World.frozen?_setCell,World.frozen?_setCell];exact h.xz k,fun k hk=>?_,fun k=>by rw [World.frozen?_setCell,World.frozen?_setCell];exact h.ez k,h.xl,h.el.1,by rw [World.setCell,World.setCell];simp only [Array.size_setIfInBounds];first | exact h.el.2 | (simp;exact h.el.2)⟩
 ·have f1:Fr (fun q=>q = x ∨ q = be) V ((V.setCell ⟨x,o,none⟩ v).setCell ⟨be,i,none⟩ (.int .i64 0)):=((Fr.refl (fun q=>q = x ∨ q = be) V).setCell (p:=⟨x,o,none⟩) (.inl rfl) _).setCell (p:=⟨be,i,none⟩) (.inr rfl) _
  exact h.fr.trans f1 (fun _ _ t=>t) (fun q hq t=>t.elim id (fun t=>by have:=h.el.1;omega))
 ·rw [World.cell?_setCell_other _ _ _ _ (addr_ne' hne)]
  by_cases e:k = o
  ·subst e
   rw [if_pos rfl]
   exact World.cell?_setCell_same _ _ _ ho
  ·rw [World.cell?_setCell_other _ _ _ _ (addr_ne (Ne.symm e)),if_neg e]
   exact h.xc k
 ·by_cases e:k = i
  ·subst e
   have hc:(V.setCell ⟨x,o,none⟩ v).cell? ⟨be,k,none⟩ = some (.int .i64 0):=by
    rw [World.cell?_setCell_other _ _ _ _ (addr_ne' (Ne.symm hne))];exact h.ec k hk
   exact World.cell?_setCell_same _ _ _ hc
  ·rw [World.cell?_setCell_other _ _ _ _ (addr_ne (Ne.symm e)),World.cell?_setCell_other _ _ _ _ (addr_ne' (Ne.symm hne))]
   exact h.ec k hk
theorem XP.start {x:Nat} (hx:x < W.heap.size) (hz:∀ o,W.frozen? ⟨x,o,none⟩ = false):XP W x W.heap.size (fun _=>none) (W.alloc (.cells #[.int .i64 0,.int .i64 0,.int .i64 0] 97)):=by
 have hb:=bel_alloc (Below.refl W.heap.size W) (.cells #[.int .i64 0,.int .i64 0,.int .i64 0] 97)
 refine ⟨Fr.of_below hb,fun o=>(Fr.of_below (S:=fun _=>False) hb).cell (p:=⟨x,o,none⟩) hx (fun t=>t),fun o=>((Fr.of_below (S:=fun _=>False) hb).frozen (p:=⟨x,o,none⟩) hx (fun t=>t)).trans (hz o),fun i hi=>?_,fun i=>by { unfold World.frozen?;rw [map_at];simp },hx,Nat.le_refl _,by simp⟩
 have hi':i = 0 ∨ i = 1 ∨ i = 2:=by omega
 rcases hi' with rfl | rfl | rfl
 ·exact cell_newb _ _ _ _ 0 _ rfl rfl
 ·exact cell_newb _ _ _ _ 1 _ rfl rfl
 ·exact cell_newb _ _ _ _ 2 _ rfl rfl
theorem two_fr (V:World) (x be o i:Nat) (v u:Value):Fr (fun q=>q = x ∨ q = be) V ((V.setCell ⟨x,o,none⟩ v).setCell ⟨be,i,none⟩ u) :=
 ((Fr.refl (fun q=>q = x ∨ q = be) V).setCell (p:=⟨x,o,none⟩) (.inl rfl) _).setCell (p:=⟨be,i,none⟩) (.inr rfl) _
theorem two_size (V:World) (p q:Addr) (v u:Value):((V.setCell p v).setCell q u).heap.size = V.heap.size:=by simp
theorem fr_then {T:Nat → Prop} {V V' V'':World} (h:Fr T V V') (hb:Below V'.heap.size V' V''):Fr T V V'':=h.trans (T:=fun _=>False) (Fr.of_below hb) (fun _ _ t=>t) (fun _ _ t=>t.elim)
theorem fr_and {T:Nat → Prop} {V V' V'':World} (h:Fr T V V') (k:Fr T V' V''):Fr T V V'':=h.trans k (fun _ _ t=>t) (fun _ _ t=>t)
open Classical in
theorem NewL.fin (h:NewL w n n tk bu a c x tb tc jb jc av sv col sk sz sp sq W) (hS:SetOk bu n tk) (hf:Fr (fun q=>q = x) W w')
  (xo:∀ o,o ≠ 5 → o ≠ 6 → o ≠ 8 → w'.cell? ⟨x,o,none⟩ = W.cell? ⟨x,o,none⟩) (xz:∀ o,w'.frozen? ⟨x,o,none⟩ = false) {hp gp gq gc ty tp tq:Nat} {F:Nat → Prop}
  (x5:w'.cell? ⟨x,5,none⟩ = some (.pointer (some ⟨hp,0,none⟩))) (x6:w'.cell? ⟨x,6,none⟩ = some (.pointer (some ⟨gp,0,none⟩))) (x8:w'.cell? ⟨x,8,none⟩ = some (.pointer (some ⟨ty,0,none⟩)))
  (hg:GuardAt w' gp gq gc 0 (newGates (Ts tk n))) (hh:HH w.heap.size w' hp F n []) (ht:∃ f m ef tf,TA w' ty tp tq 64 f m ef tf) (s1 s2:Nat)
  (g1:W.heap.size ≤ gp ∧ W.heap.size ≤ gq) (g2:gp < s1 ∧ gq < s1) (F1:∀ k,F k → s1 ≤ k ∧ k < s2) (t1:s2 ≤ ty ∧ s2 ≤ tp ∧ s2 ≤ tq) (hs12:s1 ≤ s2) :
  ∃ A col' jbk gs,A.x = x ∧ XW w.heap.size A bu n tk w' (St0 tk) [] 0 col' F [] (.slice none 0 0) jbk gs (St0 tk).job ∧ ∀ k,k < w.heap.size → col' k = 0:=by
 have lt:∀ {q d:Nat},col q = d → d ≠ 0 → q < W.heap.size:=fun e hd=>(h.lt _ (by rw [e];exact hd)).2
 have ne:∀ {q d:Nat},col q = d → d ≠ 1 → ¬ q = x:=fun e hd t=>by rw [t,h.cx] at e;exact hd e.symm
 have hn0:0 < n:=hS.n1
 obtain ⟨sb,sc,hsv⟩:=own_some h.sr hn0
 subst hsv
 have hgl:=hg.q1
 have hgp:=hg.p1
 obtain ⟨f,m,ef,tf,hta⟩:=ht
 have hsk:=fun i (hi:i < n)=>h.cs i hi
 have old:∀ {q d:Nat},col q = d → d ≠ 0 → d ≠ 9 → (if q < W.heap.size then (if col q = 9 then 0 else col q) else if q = gp ∨ q = gq then 3 else if F q then 2 else if q = ty ∨ q = tp ∨ q = tq then 4 else 0) = d:=fun {q d} e h0 h9=>by
  rw [if_pos (lt e h0),if_neg (by omega)];exact e
 have ng:∀ {q:Nat},W.heap.size ≤ q → ¬ q < W.heap.size:=fun h=>Nat.not_lt.2 h
 have tsk:∀ j,j < n → w'.rangeAt tb (j * 11) (tkc (tk j)):=fun j hj i u hu=>by
  have htr:=own_fr2 h.tr hf (fun q e=>by simp [Value.ownBlock] at e;subst e;exact ne h.ct (by omega))
  have hi:i < 11:=(List.getElem?_eq_some_iff.1 hu).1
  have:=htr.cells (g:=tb) rfl (j * 11 + i) u (by rw [tkcs_get tk n j i hj hi];exact hu)
  rw [add_none,Nat.zero_add] at this
  exact this
 have srow:∀ i,i < n → w'.cell? ⟨sb,i,none⟩ = some (.pointer (some ⟨sk i,0,none⟩)):=fun i hi=>by
  have hsr:=own_fr2 h.sr hf (fun q e=>by simp [Value.ownBlock] at e;subst e;exact ne (h.cv sb rfl) (by omega))
  have:=hsr.cells (g:=sb) rfl i _ (by rw [List.getElem?_map,List.getElem?_range hi];rfl)
  rw [add_none,Nat.zero_add] at this
  exact this
 refine ⟨{ x:=x,tb:=tb,tc:=tc,jb:=jb,jc:=jc,sb:=sb,sc:=sc,ph:=hp,gp:=gp,gq:=gq,gc:=gc,ty:=ty,tp:=tp,tq:=tq,sk:=sk,sz:=sz,sp:=sp,sq:=sq },
  fun q=>if q < W.heap.size then (if col q = 9 then 0 else col q) else if q = gp ∨ q = gq then 3 else if F q then 2 else if q = ty ∨ q = tp ∨ q = tq then 4 else 0,fun _=>0,newGates (Ts tk n),rfl,?_,fun k hk=>?_⟩
 ·refine ⟨⟨(xo 0 (by omega) (by omega) (by omega)).trans h.f0,(xo 1 (by omega) (by omega) (by omega)).trans h.f1,(xo 2 (by omega) (by omega) (by omega)).trans h.f2,(xo 3 (by omega) (by omega) (by omega)).trans h.f3,(xo 4 (by omega) (by omega) (by omega)).trans h.f4,x5,x6,(xo 7 (by omega) (by omega) (by omega)).trans h.f7,x8,(xo 9 (by omega) (by omega) (by omega)).trans h.f9,xz⟩,tsk,
   ⟨fun i hi=>(hf.cell (p:=⟨jb,i,none⟩) (lt h.cj (by omega)) (ne h.cj (by omega))).trans (h.jr i hi),fun o=>(hf.frozen (p:=⟨jb,o,none⟩) (lt h.cj (by omega)) (ne h.cj (by omega))).trans (h.jz o),fun i J hi e=>(by cases e),fun i J hi e=>(by cases e)⟩,
   ⟨srow,fun i hi=>?_⟩,hh,hg,⟨f,m,ef,tf,hta⟩,World.ownsRow_nil _ _ _ _,⟨old h.cx (by omega) (by omega),old h.ct (by omega) (by omega),old h.cj (by omega) (by omega),old (h.cv sb rfl) (by omega) (by omega),
    fun i hi=>⟨old (hsk i hi).1 (by omega) (by have:=hS.n2;omega),old (hsk i hi).2.1 (by omega) (by omega),old (hsk i hi).2.2.1 (by omega) (by omega),old (hsk i hi).2.2.2 (by omega) (by omega)⟩,fun k hk=>?_,⟨?_,?_⟩,⟨?_,?_,?_⟩,fun k e=>by simp [Value.ownBlock] at e,fun i J hi e=>(by cases e),fun k hk=>?_,hS.n2⟩,
   by simp [newGates,Ts_len],fun i hi=>?_,fun q=>?_,hS.ok,fun i J hi e=>(by cases e),by show 0 ≤ _;omega,by omega⟩
  ·obtain ⟨cf,e1,e2⟩:=h.sks i hi
   obtain ⟨c1,c2,c3,c4⟩:=h.cs i hi
   exact ⟨0,0,cf,e1.keep hf (ne c1 (by omega)) (ne c2 (by omega)) (ne c3 (by omega)) (ne c4 (by omega)),e2,Nat.le_refl _⟩
  ·have hk1:=F1 k hk
   show (if k < W.heap.size then _ else _) = _
   rw [if_neg (by omega),if_neg (by omega),if_pos hk]
  ·show (if gp < W.heap.size then _ else _) = _
   rw [if_neg (by omega),if_pos (.inl rfl)]
  ·show (if gq < W.heap.size then _ else _) = _
   rw [if_neg (by omega),if_pos (.inr rfl)]
  ·have e0:¬ ty < W.heap.size:=by omega
   have e1:¬ (ty = gp ∨ ty = gq):=by omega
   have e2:¬ F ty:=fun t=>by have:=F1 _ t;omega
   show (if ty < W.heap.size then _ else _) = _
   rw [if_neg e0,if_neg e1,if_neg e2,if_pos (.inl rfl)]
  ·have e0:¬ tp < W.heap.size:=by omega
   have e1:¬ (tp = gp ∨ tp = gq):=by omega
   have e2:¬ F tp:=fun t=>by have:=F1 _ t;omega
   show (if tp < W.heap.size then _ else _) = _
   rw [if_neg e0,if_neg e1,if_neg e2,if_pos (.inr (.inl rfl))]
  ·have e0:¬ tq < W.heap.size:=by omega
   have e1:¬ (tq = gp ∨ tq = gq):=by omega
   have e2:¬ F tq:=fun t=>by have:=F1 _ t;omega
   show (if tq < W.heap.size then _ else _) = _
   rw [if_neg e0,if_neg e1,if_neg e2,if_pos (.inr (.inr rfl))]
  ·have hbw:=h.bel.size
   have hfs:=hf.size
   have hk':(if k < W.heap.size then (if col k = 9 then 0 else col k) else if k = gp ∨ k = gq then 3 else if F k then 2 else if k = ty ∨ k = tp ∨ k = tq then 4 else 0) ≠ 0:=hk
   by_cases c0:k < W.heap.size
   ·rw [if_pos c0] at hk'
    by_cases c9:col k = 9
    ·rw [if_pos c9] at hk';exact absurd rfl hk'
    ·rw [if_neg c9] at hk'
     have:=h.lt k hk';omega
   ·rw [if_neg c0] at hk'
    by_cases c1:k = gp ∨ k = gq
    ·rcases c1 with rfl | rfl <;> omega
    ·rw [if_neg c1] at hk'
     by_cases c2:F k
     ·have:=(hh.flt k c2).1;omega
     ·rw [if_neg c2] at hk'
      by_cases c3:k = ty ∨ k = tp ∨ k = tq
      ·have:=hta.ylt
       have:=hta.re.plt
       have:=hta.re.qlt
       rcases c3 with rfl | rfl | rfl <;> omega
      ·rw [if_neg c3] at hk';exact absurd rfl hk'
  ·have hi':i < (Ts tk n).length:=by simpa [newGates] using hi
   simp only [newGates,List.getElem_map]
   exact ⟨Ts_get tk n i hi',rfl,rfl⟩
  ·constructor
   ·intro hq;cases hq
   ·rintro ⟨i,J,hi,e,_⟩;cases e
 ·have hbw:=h.bel.size
  show (if k < W.heap.size then _ else _) = _
  rw [if_pos (by omega)]
  by_cases c9:col k = 9
  ·rw [if_pos c9]
  ·rw [if_neg c9]
   by_cases e:col k = 0
   ·exact e
   ·have:=(h.lt k e).1;omega
end
end
end Go.Proofs.YtnoahekcemfmcaaGreatDoor
