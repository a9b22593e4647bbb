/- A part of the walk: Xs. -/
import Derived.Test.YtnoahekcemfmcaaGreatDoorR29
namespace Go.Proofs.YtnoahekcemfmcaaGreatDoor
set_option linter.unusedVariables false
set_option linter.unusedSimpArgs false
set_option maxHeartbeats 80000000
set_option maxRecDepth 100000
section
open Go.RowKit
structure NewL (w:World) (n k:Nat) (tk:Nat → Tk) (bu:Int) (a:Option Addr) (c x tb tc jb jc:Nat) (av sv:Value) (col:Nat → Nat) (sk sz sp sq:Nat → Nat) (W:World):Prop where
 b0:W.cell? ⟨w.heap.size,0,none⟩ = some (.int .i64 bu)
 b1:W.cell? ⟨w.heap.size,1,none⟩ = some (.slice a n c)
 bc:col w.heap.size = 0
 tr:W.ownsRow w.heap.size 41 11 (.slice (some ⟨tb,0,none⟩) n tc) n (tkcs tk n)
 jr:∀ i,i < n → W.cell? ⟨jb,i,none⟩ = some (.pointer none)
 jz:∀ o,W.frozen? ⟨jb,o,none⟩ = false
 f0:W.cell? ⟨x,0,none⟩ = some (.int .i64 bu)
 f1:W.cell? ⟨x,1,none⟩ = some (.slice (some ⟨tb,0,none⟩) n tc)
 f2:W.cell? ⟨x,2,none⟩ = some (.int .i64 0)
 f3:W.cell? ⟨x,3,none⟩ = some (.slice (some ⟨jb,0,none⟩) n jc)
 f4:W.cell? ⟨x,4,none⟩ = some (.int .i64 (-1))
 f5:W.cell? ⟨x,5,none⟩ = some (.pointer none)
 f6:W.cell? ⟨x,6,none⟩ = some (.pointer none)
 f7:W.cell? ⟨x,7,none⟩ = some sv
 f8:W.cell? ⟨x,8,none⟩ = some (.pointer none)
 f9:W.cell? ⟨x,9,none⟩ = some (.slice none 0 0)
 fz:∀ o,W.frozen? ⟨x,o,none⟩ = false
 ap:W.ownsRow w.heap.size 3 1 av k ((List.range k).map fun i=>.int .i64 (tk i).T)
 sr:W.ownsRow w.heap.size 94 1 sv k ((List.range k).map fun i=>.pointer (some ⟨sk i,0,none⟩))
 sks:∀ i,i < k → ∃ cf,SKp W (sk i) (sz i) (sp i) (sq i) (tk i).K.toNat 0 (tk i).M.toNat 0 cf ∧ ringL (tk i).K.toNat 0 (tk i).K.toNat cf = List.replicate (tk i).K.toNat true
 cx:col x = 1
 ct:col tb = 7
 cj:col jb = 5
 cs:∀ i,i < k → col (sk i) = 10 + i ∧ col (sz i) = 10 + i ∧ col (sp i) = 10 + i ∧ col (sq i) = 10 + i
 ca:∀ q,av.ownBlock = some q → col q = 9
 cv:∀ q,sv.ownBlock = some q → col q = 8
 lt:∀ q,col q ≠ 0 → w.heap.size ≤ q ∧ q < W.heap.size
 bel:Below w.heap.size w W
 sz0:w.heap.size < W.heap.size
section
variable {w W W':World} {n k:Nat} {tk:Nat → Tk} {bu:Int} {a:Option Addr} {c x tb tc jb jc:Nat} {av sv:Value} {col:Nat → Nat} {sk sz sp sq:Nat → Nat} {T:Nat → Prop}
theorem fr_bel (hb:Below w.heap.size w W) (hf:Fr T W W') (hT:∀ q,T q → w.heap.size ≤ q):Below w.heap.size w W' :=
 hb.trans (hf.below (fun q _ t=>hT q t) hb.size)
theorem NewL.keep (h:NewL w n k tk bu a c x tb tc jb jc av sv col sk sz sp sq W) (hf:Fr T W W') (hT:∀ q,T q → col q = 0 ∧ w.heap.size < q):NewL w n k tk bu a c x tb tc jb jc av sv col sk sz sp sq W':=by
 have ne:∀ {q d:Nat},col q = d → d ≠ 0 → ¬ T q:=fun e hd t=>hd (by rw [← e];exact (hT _ t).1)
 have lt:∀ {q d:Nat},col q = d → d ≠ 0 → q < W.heap.size:=fun e hd=>(h.lt _ (by rw [e];exact hd)).2
 have cell:∀ {q d o:Nat} {v:Value},col q = d → d ≠ 0 → W.cell? ⟨q,o,none⟩ = some v → W'.cell? ⟨q,o,none⟩ = some v:=fun {q d o v} e hd hc=>(hf.cell (p:=⟨q,o,none⟩) (lt e hd) (ne e hd)).trans hc
 have fro:∀ {q d o:Nat},col q = d → d ≠ 0 → W.frozen? ⟨q,o,none⟩ = false → W'.frozen? ⟨q,o,none⟩ = false:=fun {q d o} e hd hc=>(hf.frozen (p:=⟨q,o,none⟩) (lt e hd) (ne e hd)).trans hc
 have nb:¬ T w.heap.size:=fun t=>by have:=(hT _ t).2;omega
 exact ⟨(hf.cell (p:=⟨w.heap.size,0,none⟩) h.sz0 nb).trans h.b0,(hf.cell (p:=⟨w.heap.size,1,none⟩) h.sz0 nb).trans h.b1,h.bc,
  own_fr2 h.tr hf (fun q e=>by simp [Value.ownBlock] at e;subst e;exact ne h.ct (by omega)),fun i hi=>cell h.cj (by omega) (h.jr i hi),fun o=>fro h.cj (by omega) (h.jz o),
  cell h.cx (by omega) h.f0,cell h.cx (by omega) h.f1,cell h.cx (by omega) h.f2,cell h.cx (by omega) h.f3,cell h.cx (by omega) h.f4,cell h.cx (by omega) h.f5,cell h.cx (by omega) h.f6,cell h.cx (by omega) h.f7,cell h.cx (by omega) h.f8,cell h.cx (by omega) h.f9,fun o=>fro h.cx (by omega) (h.fz o),
  own_fr2 h.ap hf (fun q e=>ne (h.ca q e) (by omega)),own_fr2 h.sr hf (fun q e=>ne (h.cv q e) (by omega)),
  fun i hi=>by
   obtain ⟨cf,e1,e2⟩:=h.sks i hi
   obtain ⟨c1,c2,c3,c4⟩:=h.cs i hi
   exact ⟨cf,e1.keep hf (ne c1 (by omega)) (ne c2 (by omega)) (ne c3 (by omega)) (ne c4 (by omega)),e2⟩,
  h.cx,h.ct,h.cj,h.cs,h.ca,h.cv,fun q hq=>⟨(h.lt q hq).1,Nat.lt_of_lt_of_le (h.lt q hq).2 hf.size⟩,fr_bel h.bel hf (fun q t=>Nat.le_of_lt (hT q t).2),Nat.lt_of_lt_of_le h.sz0 hf.size⟩
theorem NewL.step (h:NewL w n k tk bu a c x tb tc jb jc av sv col sk sz sp sq W) {w2:World} {s z p q':Nat} {cf:Nat → Bool} {av' sv':Value} (hb2:Below W.heap.size W w2)
  (hsk:SKp w2 s z p q' (tk k).K.toNat 0 (tk k).M.toNat 0 cf) (hrl:ringL (tk k).K.toNat 0 (tk k).K.toNat cf = List.replicate (tk k).K.toNat true) (hn:W.heap.size ≤ s ∧ W.heap.size ≤ z ∧ W.heap.size ≤ p ∧ W.heap.size ≤ q')
  (hl:s < w2.heap.size ∧ z < w2.heap.size ∧ p < w2.heap.size ∧ q' < w2.heap.size)
  (hf:Fr (fun q=>av.ownBlock = some q ∨ sv.ownBlock = some q ∨ q = x) w2 W') (hav:W'.ownsRow w.heap.size 3 1 av' (k + 1) ((List.range k).map (fun i=>Value.int .i64 (tk i).T) ++ [.int .i64 (tk k).T]))
  (hsv:W'.ownsRow w.heap.size 94 1 sv' (k + 1) ((List.range k).map (fun i=>Value.pointer (some ⟨sk i,0,none⟩)) ++ [.pointer (some ⟨s,0,none⟩)]))
  (ha:av'.ownBlock = av.ownBlock ∨ ∃ g,av'.ownBlock = some g ∧ w2.heap.size ≤ g) (hs:sv'.ownBlock = sv.ownBlock ∨ ∃ g,sv'.ownBlock = some g ∧ w2.heap.size ≤ g)
  (hne:∀ g,av'.ownBlock = some g → w2.heap.size ≤ g → sv'.ownBlock ≠ some g)
  (x7:W'.cell? ⟨x,7,none⟩ = some sv') (xo:∀ o,o ≠ 7 → W'.cell? ⟨x,o,none⟩ = w2.cell? ⟨x,o,none⟩) (xz:∀ o,W'.frozen? ⟨x,o,none⟩ = w2.frozen? ⟨x,o,none⟩) :
  ∃ col' sk' sz' sp' sq',NewL w n (k + 1) tk bu a c x tb tc jb jc av' sv' col' sk' sz' sp' sq' W':=by
 have h2:=h.keep (T:=fun _=>False) (Fr.of_below hb2) (fun _ t=>t.elim)
 have hsz:=hb2.size
 have lt:∀ {q d:Nat},col q = d → d ≠ 0 → q < W.heap.size:=fun e hd=>(h.lt _ (by rw [e];exact hd)).2
 have lt2:∀ {q d:Nat},col q = d → d ≠ 0 → q < w2.heap.size:=fun e hd=>(h2.lt _ (by rw [e];exact hd)).2
 have ne:∀ {q d:Nat},col q = d → d ≠ 9 → d ≠ 8 → d ≠ 1 → ¬ (av.ownBlock = some q ∨ sv.ownBlock = some q ∨ q = x):=fun e h9 h8 h1 t=>by
  rcases t with t | t | t
  ·have:=h.ca _ t;omega
  ·have:=h.cv _ t;omega
  ·rw [t] at e;have:=h.cx;omega
 have nw:∀ {q:Nat},W.heap.size ≤ q → ¬ (av.ownBlock = some q ∨ sv.ownBlock = some q ∨ q = x):=fun hq t=>by
  rcases t with t | t | t
  ·have:=lt (h.ca _ t) (by omega);omega
  ·have:=lt (h.cv _ t) (by omega);omega
  ·have:=lt h.cx (by omega);omega
 have hxl:x < w2.heap.size:=lt2 h.cx (by omega)
 have nb:¬ (av.ownBlock = some w.heap.size ∨ sv.ownBlock = some w.heap.size ∨ w.heap.size = x):=fun t=>by
  have hb:=h.bc
  rcases t with t | t | t
  ·have:=h.ca _ t;omega
  ·have:=h.cv _ t;omega
  ·have:=h.cx;rw [← t] at this;omega
 have cell:∀ {q d o:Nat} {v:Value},col q = d → d ≠ 0 → d ≠ 9 → d ≠ 8 → d ≠ 1 → w2.cell? ⟨q,o,none⟩ = some v → W'.cell? ⟨q,o,none⟩ = some v:=fun {q d o v} e hd h9 h8 h1 hc=>(hf.cell (p:=⟨q,o,none⟩) (lt2 e hd) (ne e h9 h8 h1)).trans hc
 let col':Nat → Nat:=fun q=>if q < W.heap.size then col q else if q = s ∨ q = z ∨ q = p ∨ q = q' then 10 + k else if sv'.ownBlock = some q then 8 else if av'.ownBlock = some q then 9 else 0
 have old:∀ {q d:Nat},col q = d → d ≠ 0 → col' q = d:=fun {q d} e hd=>by show (if q < W.heap.size then _ else _) = _;rw [if_pos (lt e hd)];exact e
 have nk:∀ {q:Nat},(q = s ∨ q = z ∨ q = p ∨ q = q') → col' q = 10 + k:=fun {q} e=>by
  show (if q < W.heap.size then _ else _) = _
  rw [if_neg (by rcases e with rfl | rfl | rfl | rfl <;> omega),if_pos e]
 have fresh:∀ {g:Nat},w2.heap.size ≤ g → ¬ g < W.heap.size ∧ ¬ (g = s ∨ g = z ∨ g = p ∨ g = q'):=fun hg=>⟨by omega,fun e=>by rcases e with rfl | rfl | rfl | rfl <;> omega⟩
 refine ⟨col',fun i=>if i = k then s else sk i,fun i=>if i = k then z else sz i,fun i=>if i = k then p else sp i,fun i=>if i = k then q' else sq i,
  (hf.cell (p:=⟨w.heap.size,0,none⟩) h2.sz0 nb).trans h2.b0,(hf.cell (p:=⟨w.heap.size,1,none⟩) h2.sz0 nb).trans h2.b1,?_,
  own_fr2 h2.tr hf (fun q e=>by simp [Value.ownBlock] at e;subst e;exact ne h.ct (by omega) (by omega) (by omega)),fun i hi=>cell h.cj (by omega) (by omega) (by omega) (by omega) (h2.jr i hi),
  fun o=>(hf.frozen (p:=⟨jb,o,none⟩) (lt2 h.cj (by omega)) (ne h.cj (by omega) (by omega) (by omega))).trans (h2.jz o),
  (xo 0 (by omega)).trans h2.f0,(xo 1 (by omega)).trans h2.f1,(xo 2 (by omega)).trans h2.f2,(xo 3 (by omega)).trans h2.f3,(xo 4 (by omega)).trans h2.f4,(xo 5 (by omega)).trans h2.f5,(xo 6 (by omega)).trans h2.f6,x7,(xo 8 (by omega)).trans h2.f8,(xo 9 (by omega)).trans h2.f9,fun o=>(xz o).trans (h2.fz o),
  ?_,?_,fun i hi=>?_,old h.cx (by omega),old h.ct (by omega),old h.cj (by omega),fun i hi=>?_,fun q e=>?_,fun q e=>?_,fun q hq=>?_,?_,Nat.lt_of_lt_of_le h2.sz0 hf.size⟩
 ·show (if w.heap.size < W.heap.size then _ else _) = _
  rw [if_pos h.sz0];exact h.bc
 ·rw [List.range_succ,List.map_append];exact hav
 ·have e:(List.range (k + 1)).map (fun i=>Value.pointer (some ⟨if i = k then s else sk i,0,none⟩)) = (List.range k).map (fun i=>Value.pointer (some ⟨sk i,0,none⟩)) ++ [.pointer (some ⟨s,0,none⟩)]:=by
   rw [List.range_succ,List.map_append]
   congr 1
   ·apply List.map_congr_left
    intro i hi
    rw [if_neg (by have:=List.mem_range.1 hi;omega)]
   ·simp
  rw [e];exact hsv
 ·by_cases hik:i = k
  ·subst hik
   simp only [if_pos]
   exact ⟨cf,hsk.keep hf (nw hn.1) (nw hn.2.1) (nw hn.2.2.1) (nw hn.2.2.2),hrl⟩
  ·simp only [if_neg hik]
   obtain ⟨cf',e1,e2⟩:=h2.sks i (by omega)
   obtain ⟨c1,c2,c3,c4⟩:=h.cs i (by omega)
   exact ⟨cf',e1.keep hf (ne c1 (by omega) (by omega) (by omega)) (ne c2 (by omega) (by omega) (by omega)) (ne c3 (by omega) (by omega) (by omega)) (ne c4 (by omega) (by omega) (by omega)),e2⟩
 ·by_cases hik:i = k
  ·subst hik
   simp only [if_pos]
   exact ⟨nk (.inl rfl),nk (.inr (.inl rfl)),nk (.inr (.inr (.inl rfl))),nk (.inr (.inr (.inr rfl)))⟩
  ·simp only [if_neg hik]
   obtain ⟨c1,c2,c3,c4⟩:=h.cs i (by omega)
   exact ⟨old c1 (by omega),old c2 (by omega),old c3 (by omega),old c4 (by omega)⟩
 ·rcases ha with ha | ⟨g,hg,hg2⟩
  ·rw [ha] at e;exact old (h.ca q e) (by omega)
  ·obtain rfl:g = q:=by rw [hg] at e;exact Option.some.inj e
   obtain ⟨f1,f2⟩:=fresh hg2
   show (if g < W.heap.size then _ else _) = _
   rw [if_neg f1,if_neg f2,if_neg (hne g hg hg2),if_pos hg]
 ·rcases hs with hs | ⟨g,hg,hg2⟩
  ·rw [hs] at e;exact old (h.cv q e) (by omega)
  ·obtain rfl:g = q:=by rw [hg] at e;exact Option.some.inj e
   obtain ⟨f1,f2⟩:=fresh hg2
   show (if g < W.heap.size then _ else _) = _
   rw [if_neg f1,if_neg f2,if_pos hg]
 ·have hsw:=hf.size
  by_cases c0:q < W.heap.size
  ·have:col' q = col q:=by show (if q < W.heap.size then _ else _) = _;rw [if_pos c0]
   rw [this] at hq
   have:=h.lt q hq
   omega
  ·have h0:=h.sz0
   by_cases c1:q = s ∨ q = z ∨ q = p ∨ q = q'
   ·rcases c1 with rfl | rfl | rfl | rfl <;> omega
   ·by_cases c2:sv'.ownBlock = some q
    ·have:=hsv.lt q c2;omega
    ·by_cases c3:av'.ownBlock = some q
     ·have:=hav.lt q c3;omega
     ·exfalso;apply hq
      show (if q < W.heap.size then _ else _) = _
      rw [if_neg c0,if_neg c1,if_neg c2,if_neg c3]
 ·refine fr_bel h2.bel hf (fun q t=>?_)
  rcases t with t | t | t
  ·exact (h.lt q (by rw [h.ca q t];omega)).1
  ·exact (h.lt q (by rw [h.cv q t];omega)).1
  ·rw [t];exact (h.lt x (by rw [h.cx];omega)).1
theorem NewL.start (hb:Below w.heap.size w W) (hsz:w.heap.size < W.heap.size) (hb0:W.cell? ⟨w.heap.size,0,none⟩ = some (.int .i64 bu)) (hb1:W.cell? ⟨w.heap.size,1,none⟩ = some (.slice a n c))
  (tr:W.ownsRow (w.heap.size + 1) 41 11 (.slice (some ⟨tb,0,none⟩) n tc) n (tkcs tk n)) (jr:W.ownsRow (w.heap.size + 1) 104 1 (.slice (some ⟨jb,0,none⟩) n jc) n (List.replicate n (.pointer none))) (hne:tb ≠ jb) :
  ∃ col,NewL w n 0 tk bu a c W.heap.size tb tc jb jc (.slice none 0 0) (.slice none 0 0) col (fun _=>0) (fun _=>0) (fun _=>0) (fun _=>0)
   (W.alloc (.cells #[.int .i64 bu,.slice (some ⟨tb,0,none⟩) n tc,.int .i64 0,.slice (some ⟨jb,0,none⟩) n jc,.int .i64 (-1),.pointer none,.pointer none,.slice none 0 0,.pointer none,.slice none 0 0] 93)):=by
 have ht:=tr.lt tb rfl
 have hj:=jr.lt jb rfl
 have hbel:=bel_alloc (Below.refl W.heap.size W) (.cells #[.int .i64 bu,.slice (some ⟨tb,0,none⟩) n tc,.int .i64 0,.slice (some ⟨jb,0,none⟩) n jc,.int .i64 (-1),.pointer none,.pointer none,.slice none 0 0,.pointer none,.slice none 0 0] 93)
 have hjz:∀ o,W.frozen? ⟨jb,o,none⟩ = false:=fun o=>by
  rcases jr.2 with ⟨hv,_⟩ | ⟨g,cap,cur,hv,_,hg,_⟩
  ·cases hv
  ·cases hv
   unfold World.frozen?
   rw [hg]
   simp
 have hjc:∀ i,i < n → W.cell? ⟨jb,i,none⟩ = some (.pointer none):=fun i hi=>by
  have:=jr.cells (g:=jb) rfl i (.pointer none) (by rw [List.getElem?_replicate,if_pos hi])
  rw [add_none,Nat.zero_add] at this
  exact this
 have fr:Fr (fun _=>False) W (W.alloc (.cells #[.int .i64 bu,.slice (some ⟨tb,0,none⟩) n tc,.int .i64 0,.slice (some ⟨jb,0,none⟩) n jc,.int .i64 (-1),.pointer none,.pointer none,.slice none 0 0,.pointer none,.slice none 0 0] 93)):=Fr.of_below hbel
 refine ⟨fun q=>if q = W.heap.size then 1 else if q = tb then 7 else if q = jb then 5 else 0,cell_bel hbel hb0,cell_bel hbel hb1,?_,own_base (own_fr2 tr fr (fun _ _ h=>h)) (by omega),fun i hi=>cell_bel hbel (hjc i hi),fun o=>(fr.frozen (p:=⟨jb,o,none⟩) hj.2 (fun h=>h)).trans (hjz o),
  cell_newb _ _ _ _ 0 _ rfl rfl,cell_newb _ _ _ _ 1 _ rfl rfl,cell_newb _ _ _ _ 2 _ rfl rfl,cell_newb _ _ _ _ 3 _ rfl rfl,cell_newb _ _ _ _ 4 _ rfl rfl,cell_newb _ _ _ _ 5 _ rfl rfl,cell_newb _ _ _ _ 6 _ rfl rfl,cell_newb _ _ _ _ 7 _ rfl rfl,cell_newb _ _ _ _ 8 _ rfl rfl,cell_newb _ _ _ _ 9 _ rfl rfl,
  fun o=>by { unfold World.frozen?;rw [map_at];simp },World.ownsRow_nil _ _ _ _,World.ownsRow_nil _ _ _ _,fun i hi=>by omega,?_,?_,?_,fun i hi=>by omega,fun q e=>by simp [Value.ownBlock] at e,fun q e=>by simp [Value.ownBlock] at e,fun q hq=>?_,hb.trans (hbel.mono hb.size),by simp;omega⟩
 ·show (if w.heap.size = W.heap.size then _ else _) = _
  rw [if_neg (by omega),if_neg (by omega),if_neg (by omega)]
 ·show (if W.heap.size = W.heap.size then _ else _) = _
  rw [if_pos rfl]
 ·show (if tb = W.heap.size then _ else _) = _
  rw [if_neg (by omega),if_pos rfl]
 ·show (if jb = W.heap.size then _ else _) = _
  rw [if_neg (by omega),if_neg (by omega),if_pos rfl]
 ·have hq':(if q = W.heap.size then 1 else if q = tb then 7 else if q = jb then 5 else 0) ≠ 0:=hq
  have hs1:(W.alloc (.cells #[.int .i64 bu,.slice (some ⟨tb,0,none⟩) n tc,.int .i64 0,.slice (some ⟨jb,0,none⟩) n jc,.int .i64 (-1),.pointer none,.pointer none,.slice none 0 0,.pointer none,.slice none 0 0] 93)).heap.size = W.heap.size + 1:=by simp
  rw [hs1]
  split at hq'
  ·omega
  ·split at hq'
   ·omega
   ·split at hq'
    ·omega
    ·exact absurd rfl hq'
end
section
variable {w W W' w4 wB:World} {n k:Nat} {tk:Nat → Tk} {bu:Int} {a:Option Addr} {c x tb tc jb jc:Nat} {av sv:Value} {col:Nat → Nat} {sk sz sp sq:Nat → Nat} {T:Nat → Prop}
theorem NewL.apart (h:NewL w n k tk bu a c x tb tc jb jc av sv col sk sz sp sq W) (q:Nat) (e:sv.ownBlock = some q):¬ av.ownBlock = some q:=fun t=>by
 have:=h.ca q t;have:=h.cv q e;omega
theorem NewL.pre (h:NewL w n k tk bu a c x tb tc jb jc av sv col sk sz sp sq w4) (hf:Fr (fun q=>av.ownBlock = some q ∨ sv.ownBlock = some q) w4 wB):wB.cell? ⟨x,7,none⟩ = some sv ∧ wB.frozen? ⟨x,7,none⟩ = false ∧ x < wB.heap.size:=by
 have nx:¬ (av.ownBlock = some x ∨ sv.ownBlock = some x):=fun t=>by
  have:=h.cx
  rcases t with t | t
  ·have:=h.ca x t;omega
  ·have:=h.cv x t;omega
 have lx:x < w4.heap.size:=block_lt h.f0
 exact ⟨(hf.cell (p:=⟨x,7,none⟩) lx nx).trans h.f7,(hf.frozen (p:=⟨x,7,none⟩) lx nx).trans (h.fz 7),Nat.lt_of_lt_of_le lx hf.size⟩
theorem NewL.post (h:NewL w n k tk bu a c x tb tc jb jc av sv col sk sz sp sq W) {s z p q':Nat} {cf:Nat → Bool} {gA cA gB cB:Nat} {wA:World} (hb2:Below W.heap.size W w4)
  (hsk:SKp w4 s z p q' (tk k).K.toNat 0 (tk k).M.toNat 0 cf) (hrl:ringL (tk k).K.toNat 0 (tk k).K.toNat cf = List.replicate (tk k).K.toNat true) (hn:W.heap.size ≤ s ∧ W.heap.size ≤ z ∧ W.heap.size ≤ p ∧ W.heap.size ≤ q')
  (hl:s < w4.heap.size ∧ z < w4.heap.size ∧ p < w4.heap.size ∧ q' < w4.heap.size)
  (hf:Fr (fun q=>av.ownBlock = some q ∨ sv.ownBlock = some q) w4 wB) (hav:wA.ownsRow w.heap.size 3 1 (.slice (some ⟨gA,0,none⟩) (k + 1) cA) (k + 1) ((List.range k).map (fun i=>Value.int .i64 (tk i).T) ++ [.int .i64 (tk k).T]))
  (hAB:Fr (fun q=>sv.ownBlock = some q) wA wB) (hsv:wB.ownsRow w.heap.size 94 1 (.slice (some ⟨gB,0,none⟩) (k + 1) cB) (k + 1) ((List.range k).map (fun i=>Value.pointer (some ⟨sk i,0,none⟩)) ++ [.pointer (some ⟨s,0,none⟩)]))
  (ha:av.ownBlock = some gA ∨ w4.heap.size ≤ gA) (hs:sv.ownBlock = some gB ∨ wA.heap.size ≤ gB) (hwA:w4.heap.size ≤ wA.heap.size) :
  ∃ sv' col' sk' sz' sp' sq',NewL w n (k + 1) tk bu a c x tb tc jb jc (.slice (some ⟨gA,0,none⟩) (k + 1) cA) sv' col' sk' sz' sp' sq' (wB.setCell ⟨x,7,none⟩ (.slice (some ⟨gB,0,none⟩) (k + 1) cB)):=by
 have h2:=h.keep (T:=fun _=>False) (Fr.of_below hb2) (fun _ t=>t.elim)
 obtain ⟨p1,p2,p3⟩:=h2.pre hf
 have lt:∀ {q d:Nat},col q = d → d ≠ 0 → q < w4.heap.size:=fun e hd=>(h2.lt _ (by rw [e];exact hd)).2
 have hgA:=(hav.lt gA rfl).2
 have hgx:gA ≠ x:=by
  rcases ha with e | e
  ·intro e2;have h1:=h.ca gA e;rw [e2,h.cx] at h1;omega
  ·have:=lt h.cx (by omega);omega
 have hgB:gB ≠ x:=by
  rcases hs with e | e
  ·intro e2;have h1:=h.cv gB e;rw [e2,h.cx] at h1;omega
  ·have:=lt h.cx (by omega);omega
 have hgs:¬ sv.ownBlock = some gA:=fun t=>by
  rcases ha with e | e
  ·have:=h.ca gA e;have:=h.cv gA t;omega
  ·have:=lt (h.cv gA t) (by omega);omega
 have hf2:Fr (fun q=>av.ownBlock = some q ∨ sv.ownBlock = some q ∨ q = x) w4 (wB.setCell ⟨x,7,none⟩ (.slice (some ⟨gB,0,none⟩) (k + 1) cB)) :=
  (hf.mono (T:=fun q=>av.ownBlock = some q ∨ sv.ownBlock = some q ∨ q = x) (fun _ _ t=>t.imp id Or.inl)).setCell (p:=⟨x,7,none⟩) (.inr (.inr rfl)) _
 have hs1:Fr (fun q=>q = x) wB (wB.setCell ⟨x,7,none⟩ (.slice (some ⟨gB,0,none⟩) (k + 1) cB)):=(Fr.refl (fun q=>q = x) wB).setCell (p:=⟨x,7,none⟩) rfl _
 have hxw:x < w4.heap.size:=lt h.cx (by omega)
 have nx:¬ (av.ownBlock = some x ∨ sv.ownBlock = some x):=fun t=>by
  have:=h.cx
  rcases t with t | t
  ·have:=h.ca x t;omega
  ·have:=h.cv x t;omega
 obtain ⟨col',sk',sz',sp',sq',hfin⟩:=h.step hb2 hsk hrl hn hl hf2 (own_fr2 (own_fr2 hav hAB (fun q e=>by simp [Value.ownBlock] at e;subst e;exact hgs)) hs1 (fun q e=>by simp [Value.ownBlock] at e;subst e;exact hgx))
  (own_fr2 hsv hs1 (fun q e=>by simp [Value.ownBlock] at e;subst e;exact hgB)) (ha.imp (fun e=>e.symm) (fun e=>⟨gA,rfl,e⟩)) (hs.imp (fun e=>e.symm) (fun e=>⟨gB,rfl,by omega⟩))
  (fun g e hg e2=>by
   simp [Value.ownBlock] at e e2
   subst e;subst e2
   rcases hs with t | t
   ·have:=lt (h.cv _ t) (by omega);omega
   ·omega) (World.cell?_setCell_same _ _ _ p1) (fun o ho=>by rw [World.cell?_setCell_other _ _ _ _ (addr_ne (by omega))];exact hf.cell (p:=⟨x,o,none⟩) hxw nx) (fun o=>by rw [World.frozen?_setCell];exact hf.frozen (p:=⟨x,o,none⟩) hxw nx)
 exact ⟨_,col',sk',sz',sp',sq',hfin⟩
theorem Tryz.info94:(Tryz.prog.info? 94).map (fun i=>(i.zero,i.size,i.bytes)) = some (some (.pointer none),1,8):=by kernel_rfl
end
theorem step_make_full {P:Program} (w:World) {ops:Array Oper} {o:Oper} {a:Act} {K:Act → World → Prop} {Q':Exit → Act → World → Prop} {E:Prop}
  (hg:o.guard = none) (l c:Operand) (t:TypeId) (hop:o.op = Op.makeSlice t l c)
  (base:Nat) (e:TypeId) (i:TypeInfo) (z:Value) (size:Nat) (h1:P.underlying t = some (.slice e)) (h2:P.info? e = some i) (h3:i.zero = some z) (h4:i.size = size)
  (n:Nat) (hl:a.eval l = .int .i64 (n:Int)) (hc:a.eval c = .int .i64 (n:Int)) (b2:i.bytes * n ≤ 281474976710656) (b3:n ≤ maxLen) (b4:base ≤ w.heap.size)
  (hK:∀ w',w'.ownsRow base e size (.slice (some ⟨w.heap.size,0,none⟩) n n) n (madeCells z.cells (n * size)).toList → w.grownBy w' none → K (a.put o.dst (.slice (some ⟨w.heap.size,0,none⟩) n n)) w') :
  if Region.wanted o (yielded ops a.tmps) = true then Oper.wp P o a w K Q' else E:=by
 have hw:Region.wanted o (yielded ops a.tmps) = true:=by simp [Region.wanted,hg]
 rw [if_pos hw]
 obtain ⟨w',hrun,r1,r2⟩:=run_make_full (P:=P) w base t e i z size h1 h2 h3 h4 .i64 .i64 n b2 b3 b4
 unfold Oper.wp
 simp [execOp,hop,hl,hc,hrun,Result.andThen]
 exact hK w' r1 r2
theorem Tryz.info104:(Tryz.prog.info? 104).map (fun i=>(i.zero,i.size,i.bytes)) = some (some (.pointer none),1,8):=by kernel_rfl
theorem made_nil (n:Nat):(madeCells (Value.cells (.pointer none)) (n * 1)).toList = List.replicate n (.pointer none):=by
 rw [show (Value.pointer none).cells = #[.pointer none] from rfl,Nat.mul_one,toList_madeCells_one]
end
end Go.Proofs.YtnoahekcemfmcaaGreatDoor
