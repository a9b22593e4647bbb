/- A part of the walk: W3 W4 W5. -/
import Derived.Test.YtnoahekcemfmcaaGreatDoorR16
import Derived.BigRegion
import Derived.IntWalk
namespace Go.Proofs.YtnoahekcemfmcaaGreatDoor
set_option linter.unusedVariables false
set_option linter.unusedSimpArgs false
set_option maxHeartbeats 80000000
set_option maxRecDepth 100000
section
open Go.RowKit
structure HA (e:TypeId) (B:Nat) (w:World) (p:Nat) (F:Nat → Prop) (l:List Q) (room:Nat):Prop where
 p1:p < w.heap.size
 fp:F p
 flt:∀ k,F k → k < w.heap.size ∧ B ≤ k
 room:w.cell? ⟨p,1,none⟩ = some (.int .i64 room)
 fz:∀ o,w.frozen? ⟨p,o,none⟩ = false
 row:∃ a c,w.cell? ⟨p,0,none⟩ = some (.slice a l.length c) ∧ w.ownsRow B e 4 (.slice a l.length c) l.length (l.flatMap qc) ∧ ∀ g,(Value.slice a l.length c).ownBlock = some g → F g ∧ g ≠ p
theorem HA.keep {e:TypeId} {B:Nat} {w w':World} {p:Nat} {F T:Nat → Prop} {l:List Q} {room:Nat} (h:HA e B w p F l room) (hf:Fr T w w') (hT:∀ k,F k → ¬ T k):HA e B w' p F l room where
 p1:=Nat.lt_of_lt_of_le h.p1 hf.size
 fp:=h.fp
 flt:=fun k hk=>⟨Nat.lt_of_lt_of_le (h.flt k hk).1 hf.size,(h.flt k hk).2⟩
 room:=by rw [hf.cell (p:=⟨p,1,none⟩) h.p1 (hT p h.fp)];exact h.room
 fz:=fun o=>by rw [hf.frozen (p:=⟨p,o,none⟩) h.p1 (hT p h.fp)];exact h.fz o
 row:=by
  obtain ⟨a,c,h1,h2,h3⟩:=h.row
  exact ⟨a,c,by rw [hf.cell (p:=⟨p,0,none⟩) h.p1 (hT p h.fp)];exact h1,ownsRow_keep h2 fun k hk=>hf.block k (h.flt k (h3 k hk).1).1 (hT k (h3 k hk).1),h3⟩
theorem HA.below {e:TypeId} {B:Nat} {w w':World} {p:Nat} {F:Nat → Prop} {l:List Q} {room:Nat} (h:HA e B w p F l room) (hb:Below w.heap.size w w'):HA e B w' p F l room :=
 h.keep (Fr.of_below (S:=fun _=>False) hb) (by simp)
theorem HA.drewN {e:TypeId} {B:Nat} {w:World} {p:Nat} {F:Nat → Prop} {l:List Q} {room:Nat} (h:HA e B w p F l room) (n:Nat):HA e B (w.drewN n) p F l room :=
 h.keep (T:=fun _=>False) ((Fr.refl _ _).drewN n) (by simp)
theorem HA.set {e:TypeId} {B:Nat} {w:World} {p g c:Nat} {F:Nat → Prop} {l:List Q} {room:Nat} (h:HA e B w p F l room) (hc:w.cell? ⟨p,0,none⟩ = some (.slice (some ⟨g,0,none⟩) l.length c)) (i:Nat) (hi:i < l.length) (x:Q) :
  HA e B (set4 w g (i * 4) x) p F (l.set i x) room ∧ (set4 w g (i * 4) x).cell? ⟨p,0,none⟩ = some (.slice (some ⟨g,0,none⟩) l.length c):=by
 obtain ⟨a,c',h1,h2,h3⟩:=h.row
 rw [hc] at h1
 simp only [Option.some.injEq,Value.slice.injEq,true_and] at h1
 obtain ⟨rfl,rfl⟩:=h1
 have hgp:g ≠ p:=(h3 g rfl).2
 have hf:=set4_fr w g (i * 4) x
 have hcell:(set4 w g (i * 4) x).cell? ⟨p,0,none⟩ = some (.slice (some ⟨g,0,none⟩) l.length c):=by rw [hf.cell (p:=⟨p,0,none⟩) h.p1 (fun e=>hgp e.symm)];exact hc
 refine ⟨⟨by rw [set4_size];exact h.p1,h.fp,fun k hk=>by rw [set4_size];exact h.flt k hk,by rw [hf.cell (p:=⟨p,1,none⟩) h.p1 (fun e=>hgp e.symm)];exact h.room,fun o=>by rw [hf.frozen (p:=⟨p,o,none⟩) h.p1 (fun e=>hgp e.symm)];exact h.fz o,?_⟩,hcell⟩
 rw [List.length_set]
 exact ⟨some ⟨g,0,none⟩,c,hcell,ownsRow_set4 h2 rfl i hi x,h3⟩
theorem HA.at_ {e:TypeId} {B:Nat} {w:World} {p g c:Nat} {F:Nat → Prop} {l:List Q} {room:Nat} (h:HA e B w p F l room) (hc:w.cell? ⟨p,0,none⟩ = some (.slice (some ⟨g,0,none⟩) l.length c)) :
  (∀ j (hj:j < l.length),Q4 w g (j * 4) l[j]) ∧ (∀ o,w.frozen? ⟨g,o,none⟩ = false) ∧ g ≠ p ∧ F g ∧ l.length ≤ c ∧ c ≤ 9223372036854775807:=by
 obtain ⟨a,c',h1,h2,h3⟩:=h.row
 rw [hc] at h1
 simp only [Option.some.injEq,Value.slice.injEq,true_and] at h1
 obtain ⟨rfl,rfl⟩:=h1
 have hq:=qs_of_own h2 rfl
 refine ⟨fun j hj=>?_,?_,(h3 g rfl).2,(h3 g rfl).1,?_⟩
 ·obtain ⟨b,off,e,_,hcc⟩:=hq.2 (by omega)
  obtain ⟨g',cap',hv,_,_,_,hcell,_⟩:=ownsRow_cells h2 (by omega)
  simp only [Value.slice.injEq,Option.some.injEq,Addr.mk.injEq,true_and,and_true] at hv
  obtain ⟨rfl,rfl⟩:=hv
  have:=fun k (hk:k < 4)=>flat_at l j k hj hk
  exact ⟨hcell _ _ (this 0 (by omega)),hcell _ _ (this 1 (by omega)),hcell _ _ (this 2 (by omega)),hcell _ _ (this 3 (by omega))⟩
 ·rcases h2.2 with ⟨hv,_⟩ | ⟨g',cap',cur,hv,hb,hh,_⟩
  ·simp at hv
  ·simp only [Value.slice.injEq,Option.some.injEq,Addr.mk.injEq,true_and,and_true] at hv
   obtain ⟨rfl,rfl⟩:=hv
   intro o
   simp [World.frozen?,hh]
 ·rcases h2.2 with ⟨hv,_⟩ | ⟨g',cap',cur,hv,hb,hh,hn,hm,_⟩
  ·simp at hv
  ·simp only [Value.slice.injEq,Option.some.injEq,Addr.mk.injEq,true_and,and_true] at hv
   obtain ⟨rfl,rfl⟩:=hv
   exact ⟨hn,by unfold maxLen at hm;omega⟩
theorem swap_ne (p g c n i j:Nat) (x y:Q) (w:World) (hc:w.cell? ⟨p,0,none⟩ = some (.slice (some ⟨g,0,none⟩) n c)) (hi:i < n) (hj:j < n) (hn:n ≤ 9223372036854775807) (hij:i ≠ j)
  (hx:Q4 w g (i * 4) x) (hy:Q4 w g (j * 4) y) (fz:∀ o,w.frozen? ⟨g,o,none⟩ = false) :
  Calls Tryz.prog 150 #[.pointer (some ⟨p,0,none⟩),.int .i64 i,.int .i64 j] w fun e w'=>e = .returned (.tuple #[]) ∧ ∃ q,w' = (set4 (set4 w g (i * 4) y) g (j * 4) x).drewN q:=by
 obtain ⟨x0,x1,x2,x3⟩:=x
 obtain ⟨y0,y1,y2,y3⟩:=y
 obtain ⟨a0,a1,a2,a3⟩:=hx
 obtain ⟨b0,b1,b2,b3⟩:=hy
 simp only at a0 a1 a2 a3 b0 b1 b2 b3
 unfold set4
 simp only
 have fi0:=fz (i * 4)
 have fi1:=fz (i * 4 + 1)
 have fi2:=fz (i * 4 + 2)
 have fi3:=fz (i * 4 + 3)
 have fj0:=fz (j * 4)
 have fj1:=fz (j * 4 + 1)
 have fj2:=fz (j * 4 + 2)
 have fj3:=fz (j * 4 + 3)
 have hi0:(0:Int) ≤ (i:Int):=by omega
 have hj0:(0:Int) ≤ (j:Int):=by omega
 have hiI:(i:Int) < (n:Int):=by omega
 have hjI:(j:Int) < (n:Int):=by omega
 clear fz
 go_enter Tryz.func150,Tryz.ntmps150
 go_wp2_with fail
 go_region
 all_goals (go_wp2_with fail)
 all_goals go_end0
 all_goals exact ⟨rfl,1,rfl⟩
theorem swap_eq (p g c n i:Nat) (x:Q) (w:World) (hc:w.cell? ⟨p,0,none⟩ = some (.slice (some ⟨g,0,none⟩) n c)) (hi:i < n) (hn:n ≤ 9223372036854775807)
  (hx:Q4 w g (i * 4) x) (fz:∀ o,w.frozen? ⟨g,o,none⟩ = false) :
  Calls Tryz.prog 150 #[.pointer (some ⟨p,0,none⟩),.int .i64 i,.int .i64 i] w fun e w'=>e = .returned (.tuple #[]) ∧ ∃ q,w' = (set4 (set4 w g (i * 4) x) g (i * 4) x).drewN q:=by
 obtain ⟨x0,x1,x2,x3⟩:=x
 obtain ⟨a0,a1,a2,a3⟩:=hx
 simp only at a0 a1 a2 a3
 unfold set4
 simp only
 have fi0:=fz (i * 4)
 have fi1:=fz (i * 4 + 1)
 have fi2:=fz (i * 4 + 2)
 have fi3:=fz (i * 4 + 3)
 have hi0:(0:Int) ≤ (i:Int):=by omega
 have hiI:(i:Int) < (n:Int):=by omega
 clear fz
 go_enter Tryz.func150,Tryz.ntmps150
 go_wp2_with fail
 go_region
 all_goals (go_wp2_with fail)
 all_goals go_end0
 all_goals exact ⟨rfl,1,rfl⟩
theorem swap_h {e:TypeId} {B:Nat} {w:World} {p:Nat} {F:Nat → Prop} {l:List Q} {room:Nat} (h:HA e B w p F l room) (i j:Nat) (hi:i < l.length) (hj:j < l.length) :
  Calls Tryz.prog 150 #[.pointer (some ⟨p,0,none⟩),.int .i64 i,.int .i64 j] w fun e' w'=>e' = .returned (.tuple #[]) ∧ HA e B w' p F (swp l i j) room ∧ Fr F w w':=by
 obtain ⟨a,c,hc,ho,_⟩:=h.row
 obtain ⟨g,cap,hv,_⟩:=ownsRow_cells ho (by omega)
 simp only [Value.slice.injEq,true_and] at hv
 obtain ⟨rfl,_⟩:=hv
 obtain ⟨hq,hfz,hgp,hFg,hlc,hc9⟩:=h.at_ hc
 have fin:HA e B (set4 (set4 w g (i * 4) l[j]) g (j * 4) l[i]) p F (swp l i j) room ∧ Fr F w (set4 (set4 w g (i * 4) l[j]) g (j * 4) l[i]):=by
  obtain ⟨h1,hc1⟩:=h.set hc i hi l[j]
  have hl:(l.set i l[j]).length = l.length:=List.length_set
  rw [← hl] at hc1
  obtain ⟨h2,_⟩:=h1.set hc1 j (by rw [hl];exact hj) l[i]
  refine ⟨?_,((set4_fr w g (i * 4) l[j]).trans (U:=F) (set4_fr _ g (j * 4) l[i]) (by rintro k _ rfl;exact hFg) (by rintro k _ rfl;exact hFg))⟩
  unfold swp
  rw [at_eq l i hi,at_eq l j hj]
  exact h2
 by_cases hij:i = j
 ·subst hij
  refine (swap_eq p g c l.length i l[i] w hc hi (by omega) (hq i hi) hfz).mono ?_
  rintro e' w' ⟨rfl,q,rfl⟩
  exact ⟨rfl,fin.1.drewN q,fin.2.drewN q⟩
 ·refine (swap_ne p g c l.length i j l[i] l[j] w hc hi hj (by omega) hij (hq i hi) (hq j hj) hfz).mono ?_
  rintro e' w' ⟨rfl,q,rfl⟩
  exact ⟨rfl,fin.1.drewN q,fin.2.drewN q⟩
end
section
open Go.RowKit
attribute [local go_sem ↓] Go.wp_at_zero Go.wp_at_succ
theorem below_grow (w:World) (q:Nat) (os:Array Obj):Below w.heap.size w (Sort.grow (w.drewN q) os):=by
 refine ⟨rfl,rfl,rfl,?_,fun k hk=>?_⟩
 ·simp [Sort.grow]
 ·simp [Sort.grow,Array.getElem?_append_left hk]
theorem cmpK_from {w0 w:World} (x y:Q) (h:Below w0.heap.size w0 w):Calls Tryz.prog 149 #[qv x,qv y] w fun e w'=>e = .returned (.int .i64 (cmpK x y)) ∧ Below w0.heap.size w0 w':=by
 refine (cmpK_any x y w).mono ?_
 rintro e w' ⟨rfl,q,os,rfl⟩
 exact ⟨rfl,h.trans ((below_grow w q os).mono h.size)⟩
structure Rd (w0:World) (p g n c i j:Nat) (x y:Q) (W:World):Prop where
 hd:W.cell? ⟨p,0,none⟩ = some (.slice (some ⟨g,0,none⟩) n c)
 x0:W.cell? ⟨g,i * 4,none⟩ = some (.int .i64 x.1)
 x1:W.cell? ⟨g,i * 4 + 1,none⟩ = some (.int .i64 x.2.1)
 x2:W.cell? ⟨g,i * 4 + 2,none⟩ = some (.int .i64 x.2.2.1)
 x3:W.cell? ⟨g,i * 4 + 3,none⟩ = some (.int .i64 x.2.2.2)
 y0:W.cell? ⟨g,j * 4,none⟩ = some (.int .i64 y.1)
 y1:W.cell? ⟨g,j * 4 + 1,none⟩ = some (.int .i64 y.2.1)
 y2:W.cell? ⟨g,j * 4 + 2,none⟩ = some (.int .i64 y.2.2.1)
 y3:W.cell? ⟨g,j * 4 + 3,none⟩ = some (.int .i64 y.2.2.2)
 bel:Below w0.heap.size w0 W
theorem Rd.of {w0:World} {p g n c i j:Nat} {x y:Q} (hc:w0.cell? ⟨p,0,none⟩ = some (.slice (some ⟨g,0,none⟩) n c)) (hx:Q4 w0 g (i * 4) x) (hy:Q4 w0 g (j * 4) y) {W:World} (hb:Below w0.heap.size w0 W):Rd w0 p g n c i j x y W :=
 have a:=hx.below hb
 have b:=hy.below hb
 ⟨(hb.cell (p:=⟨p,0,none⟩) (block_lt (a:=⟨p,0,none⟩) hc)).trans hc,a.c0,a.c1,a.c2,a.c3,b.c0,b.c1,b.c2,b.c3,hb⟩
theorem upL_go {l:List Q} {i:Nat} (h0:0 < i) (h:ltK (at' l i) (at' l ((i - 1) / 2)) = true):upL ltK l i = upL ltK (swp l i ((i - 1) / 2)) ((i - 1) / 2):=by
 conv=>lhs;rw [upL]
 rw [dif_pos ⟨h0,h⟩]
theorem upL_stop {l:List Q} {i:Nat} (h:¬ (0 < i ∧ ltK (at' l i) (at' l ((i - 1) / 2)) = true)):upL ltK l i = l:=by rw [upL,dif_neg h]
theorem up_any {B:Nat} {w:World} {p:Nat} {F:Nat → Prop} {l:List Q} {room:Nat} (h:HA 166 B w p F l room) (i0:Nat) (hi0:i0 < l.length) :
  Calls Tryz.prog 104 #[.pointer (some ⟨p,0,none⟩),.int .i64 i0] w fun e w'=>e = .returned (.tuple #[]) ∧ HA 166 B w' p F (upL ltK l i0) room ∧ Fr F w w':=by
 have hll:l.length ≤ 9223372036854775807:=by
  obtain ⟨a,c,hc,ho,_⟩:=h.row
  obtain ⟨g,cap,hv,_⟩:=ownsRow_cells ho (by omega)
  simp only [Value.slice.injEq,true_and] at hv
  obtain ⟨rfl,_⟩:=hv
  have:=(h.at_ hc).2.2.2.2
  omega
 go_enter Tryz.func104,Tryz.ntmps104
 go_wp2_with fail
 go_loopw [1] (fun si wr=>∃ (i:Nat) (l':List Q),l'.length = l.length ∧ i < l.length ∧ si = .int .i64 i ∧ Hid (upL ltK l' i = upL ltK l i0) ∧ HA 166 B wr p F l' room ∧ Fr F w wr) (fun si _=>(intOf si).toNat)
 case atStart=>exact ⟨i0,l,rfl,hi0,rfl,rfl,h,Fr.refl _ _⟩
 case round =>
  obtain ⟨i,l',hl,hi,rfl,HU,hH,hf⟩:=hrel
  have HH:=Lib.hid hH
  have Hf:=Lib.hid hf
  obtain ⟨a,c,hc,ho,_⟩:=hH.row
  obtain ⟨g,cap,hv,_⟩:=ownsRow_cells ho (by omega)
  simp only [Value.slice.injEq,true_and] at hv
  obtain ⟨rfl,_⟩:=hv
  obtain ⟨hq,hfz,hgp,hFg,hlc,hc9⟩:=hH.at_ hc
  clear ho hf hH
  obtain ⟨pp,hpp⟩:∃ pp,(i - 1) / 2 = pp:=⟨_,rfl⟩
  go_upto_region 0 with fail
  go_cut [25] (fun s wx=>∃ bb:Bool,s = .bool bb ∧ Hid (bb = true ↔ 0 < i ∧ ltK (at' l' i) (at' l' pp) = true) ∧ Below wr.heap.size wr wx)
  case first =>
   by_cases h0:i = 0
   ·subst h0
    go_wp2_with fail
    go_quiet (fail)
    go_wp2_with fail
    go_meet
    case rel=>exact ⟨false,rfl,⟨fun h=>by simp at h,fun h=>by omega⟩,bel_drewN (Below.refl _ _) _⟩
   ·have hx:=hq i (by omega)
    have hy:=hq pp (by omega)
    have HB:Hid (∀ bb:Bool,bb = decide (cmpK l'[i] l'[pp] < 0) → (bb = true ↔ 0 < i ∧ ltK (at' l' i) (at' l' pp) = true)):=by
     intro bb hb
     rw [hb,at_eq l' i (by omega),at_eq l' pp (by omega)]
     exact ⟨fun h=>⟨by omega,h⟩,fun h=>h.2⟩
    have HK:Hid (∀ W,Below wr.heap.size wr W → Rd wr p g l'.length c i pp l'[i] l'[pp] W):=fun W hb=>Rd.of hc hx hy hb
    have hiI:(i:Int) < (l'.length:Int):=by omega
    have hi00:(0:Int) ≤ (i:Int):=by omega
    have hi1:decide ((0:Int) < (i:Int)) = true:=by simp;omega
    have hi2:decide (0 < i) = true:=by simp;omega
    have hppI:(pp:Int) < (l'.length:Int):=by omega
    have hpp0:(0:Int) ≤ (pp:Int):=by omega
    have hppL:(pp:Int) < (l.length:Int):=by omega
    have hiL:(i:Int) < (l.length:Int):=by omega
    have k1:IntKind.i64.wrap ((i:Int) - 1) = (i:Int) - 1:=IntWalk.i64_in _ (by omega)
    have k2:((i:Int) - 1).tdiv 2 = (pp:Int):=by rw [Int.tdiv_eq_ediv_of_nonneg (by omega)];omega
    have k4:((i:Int) - 1) / 2 = (pp:Int):=by omega
    have k5:((pp:Int)).toNat = pp:=by omega
    have k3:IntKind.i64.wrap (pp:Int) = (pp:Int):=IntWalk.i64_in _ (by omega)
    generalize l'[i] = x at *
    generalize l'[pp] = y at *
    obtain ⟨x0,x1,x2,x3⟩:=x
    obtain ⟨y0,y1,y2,y3⟩:=y
    have hbr:Below wr.heap.size wr wr:=Below.refl _ _
    have HC:=Lib.hid (fun W (hb:Below wr.heap.size wr W)=>cmpK_from (w0:=wr) (x0,x1,x2,x3) (y0,y1,y2,y3) hb)
    unfold qv at HC
    simp only at HC
    generalize cmpK (x0,x1,x2,x3) (y0,y1,y2,y3) = r at *
    clear hq hx hy hc hfz hpp h0
    go_region_held3 (fun w'=>(w'.cell? ⟨p,0,none⟩ = some (.slice (some ⟨g,0,none⟩) l'.length c) ∧ w'.cell? ⟨g,i * 4,none⟩ = some (.int .i64 x0) ∧ w'.cell? ⟨g,i * 4 + 1,none⟩ = some (.int .i64 x1) ∧ w'.cell? ⟨g,i * 4 + 2,none⟩ = some (.int .i64 x2) ∧ w'.cell? ⟨g,i * 4 + 3,none⟩ = some (.int .i64 x3) ∧ w'.cell? ⟨g,pp * 4,none⟩ = some (.int .i64 y0) ∧ w'.cell? ⟨g,pp * 4 + 1,none⟩ = some (.int .i64 y1) ∧ w'.cell? ⟨g,pp * 4 + 2,none⟩ = some (.int .i64 y2) ∧ w'.cell? ⟨g,pp * 4 + 3,none⟩ = some (.int .i64 y3)) ∧ Below wr.heap.size wr w')
     ((first | (obtain ⟨z0,z1,z2,z3,z4,z5,z6,z7,z8,z9⟩:=HK.out _ (bel_drew hbr);exact ⟨⟨z0,z1,z2,z3,z4,z5,z6,z7,z8⟩,z9⟩) | (obtain ⟨z0,z1,z2,z3,z4,z5,z6,z7,z8,z9⟩:=HK.out _ (by assumption);exact ⟨⟨z0,z1,z2,z3,z4,z5,z6,z7,z8⟩,z9⟩)))
     ((go_at_call 149;refine Calls.mono (HC.out _ ?_) ?_;(first | assumption | exact bel_drew hbr);rintro e w2 ⟨rfl,hP2⟩))
    go_wp2_with fail
    go_meet
    case rel=>exact ⟨_,rfl,HB.out _ rfl,hP2⟩
  case rest =>
   obtain ⟨bb,rfl,HB,hb⟩:=hcut
   have hHc:=HH.out.below hb
   have hfc:=Hf.out.trans (Fr.of_below (S:=F) hb) (fun _ _ h=>h) (fun _ _ h=>h)
   clear HH Hf hq hfz hc
   cases bb
   ·have hst:upL ltK l' i = l':=upL_stop (by rw [hpp];intro h;have:=HB.out.2 h;simp at this)
    have E:=Lib.hid (HU.out.symm.trans hst)
    have HH:=Lib.hid hHc
    clear hst HB hHc
    go_wp2_with fail
    go_end0
    exact ⟨rfl,by rw [E.out];exact HH.out,hfc⟩
   ·obtain ⟨h0,hlt⟩:=HB.out.1 rfl
    have hgo:upL ltK l' i = upL ltK (swp l' i pp) pp:=by
     have:=upL_go (l:=l') h0 (by rw [hpp];exact hlt)
     rw [hpp] at this;exact this
    have E:Hid (upL ltK (swp l' i pp) pp = upL ltK l i0):=hgo.symm.trans HU.out
    have hS:=Lib.hid (swap_h hHc i pp (by omega) (by omega))
    have hpI:((i:Int) - 1) / 2 = (pp:Int):=by omega
    have h0I:(0:Int) < (i:Int):=by omega
    have hiI:(i:Int) < (l.length:Int):=by omega
    clear hgo hlt HB HU hHc
    go_wp2_with fail
    refine hS.out.mono ?_
    rintro e w3 ⟨rfl,hH3,hf3⟩
    go_wp2_with fail
    go_roundw
    case rel=>exact ⟨pp,swp l' i pp,by rw [swp_length];exact hl,by omega,by rw [hpI],E,hH3,hfc.trans hf3 (fun _ _ h=>h) (fun _ _ h=>h)⟩
    case measure=>simp [intOf];omega
end
section
open Go.RowKit
attribute [local go_sem ↓] Go.wp_at_zero Go.wp_at_succ
theorem downL_go {l:List Q} {i:Nat} (h0:kid ltK l i < l.length) (h:ltK (at' l (kid ltK l i)) (at' l i) = true):downL ltK l i = downL ltK (swp l i (kid ltK l i)) (kid ltK l i):=by
 conv=>lhs;rw [downL]
 rw [dif_pos ⟨h0,h⟩]
theorem downL_stop {l:List Q} {i:Nat} (h:¬ (kid ltK l i < l.length ∧ ltK (at' l (kid ltK l i)) (at' l i) = true)):downL ltK l i = l:=by rw [downL,dif_neg h]
theorem down_any {B:Nat} {w:World} {p:Nat} {F:Nat → Prop} {l:List Q} {room:Nat} (h:HA 166 B w p F l room) (i0:Nat) (hi0:i0 < l.length) (hll:l.length ≤ 4096) :
  Calls Tryz.prog 153 #[.pointer (some ⟨p,0,none⟩),.int .i64 i0] w fun e w'=>e = .returned (.tuple #[]) ∧ HA 166 B w' p F (downL ltK l i0) room ∧ Fr F w w':=by
 go_enter Tryz.func153,Tryz.ntmps153
 go_wp2_with fail
 go_loopw [1] (fun si wr=>∃ (i:Nat) (l':List Q),l'.length = l.length ∧ i < l.length ∧ si = .int .i64 i ∧ Hid (downL ltK l' i = downL ltK l i0) ∧ HA 166 B wr p F l' room ∧ Fr F w wr) (fun si _=>l.length - (intOf si).toNat)
 case atStart=>exact ⟨i0,l,rfl,hi0,rfl,rfl,h,Fr.refl _ _⟩
 case round =>
  obtain ⟨i,l',hl,hi,rfl,HU,hH,hf⟩:=hrel
  obtain ⟨n,hn⟩:∃ n,l.length = n:=⟨_,rfl⟩
  have hn':l'.length = n:=by rw [hl,hn]
  have HL:=Lib.hid hl
  have HH:=Lib.hid hH
  have Hf:=Lib.hid hf
  obtain ⟨a,c,hc,ho,_⟩:=hH.row
  obtain ⟨g,cap,hv,_⟩:=ownsRow_cells ho (by omega)
  simp only [Value.slice.injEq,true_and] at hv
  obtain ⟨rfl,_⟩:=hv
  obtain ⟨hq,hfz,hgp,hFg,hlc,hc9⟩:=hH.at_ hc
  have Hq:=Lib.hid hq
  rw [hn'] at hc
  have Hn:=Lib.hid hn
  have Hn':=Lib.hid hn'
  have hin:i < n:=by omega
  have hn4:n ≤ 4096:=by omega
  clear ho hf hH hq hl hn hlc hc9 hi hll hi0 h
  obtain ⟨K0,hK0⟩:∃ K,2 * i + 1 = K:=⟨_,rfl⟩
  obtain ⟨K1,hK1⟩:∃ K,K0 + 1 = K:=⟨_,rfl⟩
  obtain ⟨KK,hKK⟩:∃ K,kid ltK l' i = K:=⟨_,rfl⟩
  have hkd:KK = if K1 < n ∧ ltK (at' l' K1) (at' l' K0) = true then K1 else K0:=by rw [← hKK];unfold kid;rw [hn',hK0,hK1]
  have HKK:=Lib.hid hKK
  have Hkd:=Lib.hid hkd
  have e0:2 * (i:Int) + 1 = (K0:Int):=by omega
  have e1:(K0:Int) + 1 = (K1:Int):=by omega
  have e2:IntKind.i64.wrap ((K0:Int) + 1) = (K1:Int):=by rw [IntWalk.i64_in _ (by omega)];omega
  have e3:IntKind.i64.wrap (K1:Int) = (K1:Int):=IntWalk.i64_in _ (by omega)
  have b0:K0 ≤ 8193:=by omega
  have b1:K1 ≤ 8194:=by omega
  have b01:K0 < K1:=by omega
  have bi0:i < K0:=by omega
  clear hkd hKK hn' hK0 hK1
  go_upto_region 1 with fail
  go_cut [34] (fun s wx=>∃ bb:Bool,s = .bool bb ∧ Hid (bb = true ↔ K1 < n ∧ ltK (at' l' K1) (at' l' K0) = true) ∧ Below wr.heap.size wr wx)
  case first =>
   by_cases h0:K1 < n
   ·have hx:=Hq.out K1 (by rw [Hn'.out];omega)
    have hy:=Hq.out K0 (by rw [Hn'.out];omega)
    have HB:Hid (∀ bb:Bool,bb = decide (cmpK (l'[K1]'(by rw [Hn'.out];omega)) (l'[K0]'(by rw [Hn'.out];omega)) < 0) → (bb = true ↔ K1 < n ∧ ltK (at' l' K1) (at' l' K0) = true)):=by
     intro bb hb
     rw [hb,at_eq l' K1 (by rw [Hn'.out];omega),at_eq l' K0 (by rw [Hn'.out];omega)]
     exact ⟨fun h=>⟨h0,h⟩,fun h=>h.2⟩
    have HK:Hid (∀ W,Below wr.heap.size wr W → Rd wr p g n c K1 K0 (l'[K1]'(by rw [Hn'.out];omega)) (l'[K0]'(by rw [Hn'.out];omega)) W):=fun W hb=>Rd.of hc hx hy hb
    have hiI:(K1:Int) < (n:Int):=by omega
    have hi00:(0:Int) ≤ (K1:Int):=by omega
    have hppI:(K0:Int) < (n:Int):=by omega
    have hpp0:(0:Int) ≤ (K0:Int):=by omega
    have hd1:decide ((K1:Int) < (n:Int)) = true:=by simp;omega
    have hd2:decide (K1 < n) = true:=by simp;omega
    generalize l'[K1]'(by rw [Hn'.out];omega) = x at *
    generalize l'[K0]'(by rw [Hn'.out];omega) = y at *
    obtain ⟨x0,x1,x2,x3⟩:=x
    obtain ⟨y0,y1,y2,y3⟩:=y
    have hbr:Below wr.heap.size wr wr:=Below.refl _ _
    have HC:=Lib.hid (fun W (hb:Below wr.heap.size wr W)=>cmpK_from (w0:=wr) (x0,x1,x2,x3) (y0,y1,y2,y3) hb)
    unfold qv at HC
    simp only at HC
    generalize cmpK (x0,x1,x2,x3) (y0,y1,y2,y3) = r at *
    clear hx hy hc hfz
    go_region_held3 (fun w'=>(w'.cell? ⟨p,0,none⟩ = some (.slice (some ⟨g,0,none⟩) n c) ∧ w'.cell? ⟨g,K1 * 4,none⟩ = some (.int .i64 x0) ∧ w'.cell? ⟨g,K1 * 4 + 1,none⟩ = some (.int .i64 x1) ∧ w'.cell? ⟨g,K1 * 4 + 2,none⟩ = some (.int .i64 x2) ∧ w'.cell? ⟨g,K1 * 4 + 3,none⟩ = some (.int .i64 x3) ∧ w'.cell? ⟨g,K0 * 4,none⟩ = some (.int .i64 y0) ∧ w'.cell? ⟨g,K0 * 4 + 1,none⟩ = some (.int .i64 y1) ∧ w'.cell? ⟨g,K0 * 4 + 2,none⟩ = some (.int .i64 y2) ∧ w'.cell? ⟨g,K0 * 4 + 3,none⟩ = some (.int .i64 y3)) ∧ Below wr.heap.size wr w')
     ((first | (obtain ⟨z0,z1,z2,z3,z4,z5,z6,z7,z8,z9⟩:=HK.out _ (bel_drew hbr);exact ⟨⟨z0,z1,z2,z3,z4,z5,z6,z7,z8⟩,z9⟩) | (obtain ⟨z0,z1,z2,z3,z4,z5,z6,z7,z8,z9⟩:=HK.out _ (by assumption);exact ⟨⟨z0,z1,z2,z3,z4,z5,z6,z7,z8⟩,z9⟩)))
     ((go_at_call 149;refine Calls.mono (HC.out _ ?_) ?_;(first | assumption | exact bel_drew hbr);rintro e w2 ⟨rfl,hP2⟩))
    go_wp2_with fail
    go_meet
    case rel=>exact ⟨_,rfl,HB.out _ rfl,hP2⟩
   ·have hd1:decide ((K1:Int) < (n:Int)) = false:=by simp;omega
    have hd2:decide (K1 < n) = false:=by simp;omega
    have hd3:(n:Int) ≤ (K1:Int):=by omega
    go_wp2_with fail
    go_quiet (fail)
    go_wp2_with fail
    go_meet
    case rel=>exact ⟨false,rfl,⟨fun h=>by simp at h,fun h=>absurd h.1 h0⟩,bel_drewN (Below.refl _ _) _⟩
  case rest =>
   obtain ⟨bb,rfl,HB,hb⟩:=hcut
   go_upto_if 34 with fail
   go_cut [4] (fun s wx=>s = .int .i64 (KK:Int) ∧ wx = wc)
   case first =>
    cases bb
    ·have hk:KK = K0:=by rw [Hkd.out,if_neg (fun h=>by have:=HB.out.2 h;simp at this)]
     have Hk:=Lib.hid hk
     clear hk HB
     go_wp2_with fail
     go_meet
     case rel=>exact ⟨by rw [Hk.out],rfl⟩
    ·have hk:KK = K1:=by rw [Hkd.out,if_pos (HB.out.1 rfl)]
     have Hk:=Lib.hid hk
     clear hk HB
     go_wp2_with fail
     go_meet
     case rel=>exact ⟨by rw [Hk.out],rfl⟩
   case rest =>
    obtain ⟨rfl,hwc⟩:=hcut
    subst hwc
    have hHc:=HH.out.below hb
    have hfc:=Hf.out.trans (Fr.of_below (S:=F) hb) (fun _ _ h=>h) (fun _ _ h=>h)
    have hcc:wc.cell? ⟨p,0,none⟩ = some (.slice (some ⟨g,0,none⟩) n c):=(hb.cell (p:=⟨p,0,none⟩) (block_lt (a:=⟨p,0,none⟩) hc)).trans hc
    have hKb:K0 ≤ KK ∧ KK ≤ K1:=by rw [Hkd.out];split <;> omega
    obtain ⟨hKb0,hKb1⟩:=hKb
    have Hqc:Hid (∀ j (hj:j < l'.length),Q4 wc g (j * 4) l'[j]):=fun j hj=>(Hq.out j hj).below hb
    clear HB hc hfz hb e0 e1 e2 e3
    have HH2:=Lib.hid hHc
    have Hf2:=Lib.hid hfc
    clear HH Hf Hq hHc hfc
    go_upto_region 3 with fail
    obtain ⟨wx,hwx⟩:∃ wx,wc = wx:=⟨_,rfl⟩
    rw [hwx] at hcc Hqc HH2 Hf2 ⊢
    clear hwx
    go_cut [61] (fun s wy=>∃ bb:Bool,s = .bool bb ∧ Hid (bb = true ↔ ¬ (KK < n ∧ ltK (at' l' KK) (at' l' i) = true)) ∧ Below wx.heap.size wx wy)
    case first =>
     by_cases h0:KK < n
     ·have hx:=Hqc.out i (by rw [Hn'.out];omega)
      have hy:=Hqc.out KK (by rw [Hn'.out];omega)
      have HB:Hid (∀ bb:Bool,bb = decide (cmpK (l'[i]'(by rw [Hn'.out];omega)) (l'[KK]'(by rw [Hn'.out];omega)) ≤ 0) → (bb = true ↔ ¬ (KK < n ∧ ltK (at' l' KK) (at' l' i) = true))):=by
       intro bb hb
       rw [hb,ltK_le,at_eq l' KK (by rw [Hn'.out];omega),at_eq l' i (by rw [Hn'.out];omega)]
       simp [h0]
      have HK:Hid (∀ W,Below wx.heap.size wx W → Rd wx p g n c i KK (l'[i]'(by rw [Hn'.out];omega)) (l'[KK]'(by rw [Hn'.out];omega)) W):=fun W hb=>Rd.of hcc hx hy hb
      have hiI:(i:Int) < (n:Int):=by omega
      have hi00:(0:Int) ≤ (i:Int):=by omega
      have hppI:(KK:Int) < (n:Int):=by omega
      have hpp0:(0:Int) ≤ (KK:Int):=by omega
      have hd1:decide ((n:Int) ≤ (KK:Int)) = false:=by simp;omega
      have hd2:decide (n ≤ KK) = false:=by simp;omega
      generalize l'[i]'(by rw [Hn'.out];omega) = x at *
      generalize l'[KK]'(by rw [Hn'.out];omega) = y at *
      obtain ⟨x0,x1,x2,x3⟩:=x
      obtain ⟨y0,y1,y2,y3⟩:=y
      have hbr:Below wx.heap.size wx wx:=Below.refl _ _
      have HC:=Lib.hid (fun W (hb:Below wx.heap.size wx W)=>cmpK_from (w0:=wx) (x0,x1,x2,x3) (y0,y1,y2,y3) hb)
      unfold qv at HC
      simp only at HC
      generalize cmpK (x0,x1,x2,x3) (y0,y1,y2,y3) = r at *
      clear hx hy hcc
      go_region_held3 (fun w'=>(w'.cell? ⟨p,0,none⟩ = some (.slice (some ⟨g,0,none⟩) n c) ∧ w'.cell? ⟨g,i * 4,none⟩ = some (.int .i64 x0) ∧ w'.cell? ⟨g,i * 4 + 1,none⟩ = some (.int .i64 x1) ∧ w'.cell? ⟨g,i * 4 + 2,none⟩ = some (.int .i64 x2) ∧ w'.cell? ⟨g,i * 4 + 3,none⟩ = some (.int .i64 x3) ∧ w'.cell? ⟨g,KK * 4,none⟩ = some (.int .i64 y0) ∧ w'.cell? ⟨g,KK * 4 + 1,none⟩ = some (.int .i64 y1) ∧ w'.cell? ⟨g,KK * 4 + 2,none⟩ = some (.int .i64 y2) ∧ w'.cell? ⟨g,KK * 4 + 3,none⟩ = some (.int .i64 y3)) ∧ Below wx.heap.size wx w')
       ((first | (obtain ⟨z0,z1,z2,z3,z4,z5,z6,z7,z8,z9⟩:=HK.out _ (bel_drew hbr);exact ⟨⟨z0,z1,z2,z3,z4,z5,z6,z7,z8⟩,z9⟩) | (obtain ⟨z0,z1,z2,z3,z4,z5,z6,z7,z8,z9⟩:=HK.out _ (by assumption);exact ⟨⟨z0,z1,z2,z3,z4,z5,z6,z7,z8⟩,z9⟩)))
       ((go_at_call 149;refine Calls.mono (HC.out _ ?_) ?_;(first | assumption | exact bel_drew hbr);rintro e w2 ⟨rfl,hP2⟩))
      go_wp2_with fail
      go_meet
      case rel=>exact ⟨_,rfl,HB.out _ rfl,hP2⟩
     ·have hd1:decide ((n:Int) ≤ (KK:Int)) = true:=by simp;omega
      have hd2:decide (n ≤ KK) = true:=by simp;omega
      have hd3:(n:Int) ≤ (KK:Int):=by omega
      go_wp2_with fail
      go_quiet (fail)
      go_wp2_with fail
      go_meet
      case rel=>exact ⟨true,rfl,⟨fun _ h=>h0 h.1,fun _=>rfl⟩,bel_drewN (Below.refl _ _) _⟩
    case rest =>
     obtain ⟨bb,rfl,HB,hb⟩:=hcut
     have hHc:=HH2.out.below hb
     have hfc:=Hf2.out.trans (Fr.of_below (S:=F) hb) (fun _ _ h=>h) (fun _ _ h=>h)
     clear HH2 Hf2 Hqc hcc hb
     cases bb
     ·have hgo':KK < n ∧ ltK (at' l' KK) (at' l' i) = true:=by
       rcases Classical.em (KK < n ∧ ltK (at' l' KK) (at' l' i) = true) with h | h
       ·exact h
       ·have:=HB.out.2 h;simp at this
      obtain ⟨hk,hlt⟩:=hgo'
      have hgo:downL ltK l' i = downL ltK (swp l' i KK) KK:=by
       have:=downL_go (l:=l') (i:=i) (by rw [HKK.out,Hn'.out];exact hk) (by rw [HKK.out];exact hlt)
       rw [HKK.out] at this;exact this
      have E:Hid (downL ltK (swp l' i KK) KK = downL ltK l i0):=hgo.symm.trans HU.out
      have hS:=Lib.hid (swap_h hHc i KK (by rw [Hn'.out];omega) (by rw [Hn'.out];omega))
      clear hgo hlt HB HU hHc
      go_wp2_with fail
      refine hS.out.mono ?_
      rintro e w3 ⟨rfl,hH3,hf3⟩
      go_wp2_with fail
      go_roundw
      case rel=>exact ⟨KK,swp l' i KK,by rw [swp_length];exact HL.out,by rw [Hn.out];exact hk,rfl,E,hH3,hfc.trans hf3 (fun _ _ h=>h) (fun _ _ h=>h)⟩
      case measure =>
       have:=Hn.out
       simp [intOf];omega
     ·have hst:downL ltK l' i = l':=downL_stop (by rw [HKK.out,Hn'.out];exact HB.out.1 rfl)
      have E:=Lib.hid (HU.out.symm.trans hst)
      have HH:=Lib.hid hHc
      clear hst HB hHc
      go_wp2_with fail
      refine bodyPost_ret (results_none rfl _ _ _) rfl ?_
      exact ⟨rfl,by rw [E.out];exact HH.out,hfc⟩
end
end Go.Proofs.YtnoahekcemfmcaaGreatDoor
