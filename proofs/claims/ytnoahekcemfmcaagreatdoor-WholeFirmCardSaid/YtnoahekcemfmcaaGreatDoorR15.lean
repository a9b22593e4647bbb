/- A part of the walk: Re. -/
import Derived.Test.YtnoahekcemfmcaaGreatDoorR11
import Derived.Deep.RegionHeld3
namespace Go.Proofs.YtnoahekcemfmcaaGreatDoor
set_option linter.unusedVariables false
set_option linter.unusedSimpArgs false
set_option maxHeartbeats 80000000
set_option maxRecDepth 100000
section
open Go.RowKit
structure RE (w:World) (p q k f n:Nat) (ef:Nat → Nat → Int):Prop where
 c0:w.cell? ⟨p,0,none⟩ = some (.slice (some ⟨q,0,none⟩) k k)
 c1:w.cell? ⟨p,1,none⟩ = some (.int .i64 f)
 c2:w.cell? ⟨p,2,none⟩ = some (.int .i64 n)
 fz:∀ o,w.frozen? ⟨p,o,none⟩ = false
 gz:∀ o,w.frozen? ⟨q,o,none⟩ = false
 el:∀ i,i < k → ∀ j,j < 5 → w.cell? ⟨q,i * 5 + j,none⟩ = some (.int .i64 (ef i j))
 ne:p ≠ q
 k1:1 ≤ k
 k2:k ≤ 4096
 fk:f < k
 nk:n ≤ k
section
variable {w w':World} {p q k f n:Nat} {ef:Nat → Nat → Int}
theorem RE.plt (h:RE w p q k f n ef):p < w.heap.size:=block_lt h.c0
theorem RE.qlt (h:RE w p q k f n ef):q < w.heap.size:=block_lt (h.el 0 h.k1 0 (by omega))
theorem RE.keep {T:Nat → Prop} (h:RE w p q k f n ef) (hf:Fr T w w') (hp:¬ T p) (hq:¬ T q):RE w' p q k f n ef :=
 ⟨(hf.cell (p:=⟨p,0,none⟩) h.plt hp).trans h.c0,(hf.cell (p:=⟨p,1,none⟩) h.plt hp).trans h.c1,(hf.cell (p:=⟨p,2,none⟩) h.plt hp).trans h.c2,
  fun o=>(hf.frozen (p:=⟨p,o,none⟩) h.plt hp).trans (h.fz o),fun o=>(hf.frozen (p:=⟨q,o,none⟩) h.qlt hq).trans (h.gz o),
  fun i hi j hj=>(hf.cell (p:=⟨q,i * 5 + j,none⟩) h.qlt hq).trans (h.el i hi j hj),h.ne,h.k1,h.k2,h.fk,h.nk⟩
theorem RE.drewN (h:RE w p q k f n ef) (m:Nat):RE (w.drewN m) p q k f n ef:=h.keep (T:=fun _=>False) ((Fr.refl _ w).drewN m) (by simp) (by simp)
theorem RE.drew (h:RE w p q k f n ef):RE w.drew p q k f n ef:=h.keep (T:=fun _=>False) ((Fr.refl _ w).drew) (by simp) (by simp)
theorem eat_any (h:RE w p q k f n ef) (i:Nat) (hi:i ≤ 4096) :
  Calls Tryz.prog 210 #[.pointer (some ⟨p,0,none⟩),.int .i64 i] w fun e w'=>e = .returned (.int .i64 ((f + i) % k:Nat)) ∧ ∃ m,w' = w.drewN m:=by
 have c0:=h.c0
 have c1:=h.c1
 have hk1:=h.k1
 have hk2:=h.k2
 have hf:=h.fk
 have hk0:((k:Int) == 0) = false:=by simp;omega
 clear h
 go_enter Tryz.func210,Tryz.ntmps210
 go_wp2_with fail
 go_quiet (fail)
 all_goals
  go_wp2_with fail
  go_ret
  exact ⟨ret_int (mod_int f i k),_,rfl⟩
def set5 (w:World) (b o:Nat) (x:Nat → Int):World:=((((w.setCell ⟨b,o,none⟩ (.int .i64 (x 0))).setCell ⟨b,o + 1,none⟩ (.int .i64 (x 1))).setCell ⟨b,o + 2,none⟩ (.int .i64 (x 2))).setCell ⟨b,o + 3,none⟩ (.int .i64 (x 3))).setCell ⟨b,o + 4,none⟩ (.int .i64 (x 4))
theorem set5_fr {S:Nat → Prop} (w:World) (b o:Nat) (x:Nat → Int) (hS:S b):Fr S w (set5 w b o x) :=
 (((((Fr.refl S w).setCell (p:=⟨b,o,none⟩) hS _).setCell (p:=⟨b,o + 1,none⟩) hS _).setCell (p:=⟨b,o + 2,none⟩) hS _).setCell (p:=⟨b,o + 3,none⟩) hS _).setCell (p:=⟨b,o + 4,none⟩) hS _
theorem set5_cell {w:World} {b o:Nat} {x y:Nat → Int} (h:∀ j,j < 5 → w.cell? ⟨b,o + j,none⟩ = some (.int .i64 (y j))) (j:Nat) (hj:j < 5):(set5 w b o x).cell? ⟨b,o + j,none⟩ = some (.int .i64 (x j)):=by
 have h0:=h 0 (by omega)
 have h1:=h 1 (by omega)
 have h2:=h 2 (by omega)
 have h3:=h 3 (by omega)
 have h4:=h 4 (by omega)
 simp only [Nat.add_zero] at h0
 unfold set5
 match j,hj with
 | 0,_ =>
  rw [Nat.add_zero,World.cell?_setCell_other _ _ _ _ (addr_ne (by omega)),World.cell?_setCell_other _ _ _ _ (addr_ne (by omega)),World.cell?_setCell_other _ _ _ _ (addr_ne (by omega)),World.cell?_setCell_other _ _ _ _ (addr_ne (by omega))]
  exact World.cell?_setCell_same _ _ _ h0
 | 1,_ =>
  rw [World.cell?_setCell_other _ _ _ _ (addr_ne (by omega)),World.cell?_setCell_other _ _ _ _ (addr_ne (by omega)),World.cell?_setCell_other _ _ _ _ (addr_ne (by omega))]
  exact World.cell?_setCell_same _ _ _ (by rw [World.cell?_setCell_other _ _ _ _ (addr_ne (by omega))];exact h1)
 | 2,_ =>
  rw [World.cell?_setCell_other _ _ _ _ (addr_ne (by omega)),World.cell?_setCell_other _ _ _ _ (addr_ne (by omega))]
  exact World.cell?_setCell_same _ _ _ (by rw [World.cell?_setCell_other _ _ _ _ (addr_ne (by omega)),World.cell?_setCell_other _ _ _ _ (addr_ne (by omega))];exact h2)
 | 3,_ =>
  rw [World.cell?_setCell_other _ _ _ _ (addr_ne (by omega))]
  exact World.cell?_setCell_same _ _ _ (by rw [World.cell?_setCell_other _ _ _ _ (addr_ne (by omega)),World.cell?_setCell_other _ _ _ _ (addr_ne (by omega)),World.cell?_setCell_other _ _ _ _ (addr_ne (by omega))];exact h3)
 | 4,_ =>
  exact World.cell?_setCell_same _ _ _ (by rw [World.cell?_setCell_other _ _ _ _ (addr_ne (by omega)),World.cell?_setCell_other _ _ _ _ (addr_ne (by omega)),World.cell?_setCell_other _ _ _ _ (addr_ne (by omega)),World.cell?_setCell_other _ _ _ _ (addr_ne (by omega))];exact h4)
theorem set5_other {w:World} {b o:Nat} {x:Nat → Int} {a:Addr} (h:a.block ≠ b ∨ a.off < o ∨ o + 5 ≤ a.off):(set5 w b o x).cell? a = w.cell? a:=by
 have e:∀ j,j < 5 → (⟨b,o + j,none⟩:Addr) ≠ a:=by
  rintro j hj rfl
  simp only at h;omega
 have e0:=e 0 (by omega)
 simp only [Nat.add_zero] at e0
 unfold set5
 rw [World.cell?_setCell_other _ _ _ _ (e 4 (by omega)),World.cell?_setCell_other _ _ _ _ (e 3 (by omega)),World.cell?_setCell_other _ _ _ _ (e 2 (by omega)),World.cell?_setCell_other _ _ _ _ (e 1 (by omega)),World.cell?_setCell_other _ _ _ _ e0]
theorem set5_frozen (w:World) (b o:Nat) (x:Nat → Int) (a:Addr):(set5 w b o x).frozen? a = w.frozen? a:=by simp [set5]
def ev5 (x:Nat → Int):Value:=.agg #[.int .i64 (x 0),.int .i64 (x 1),.int .i64 (x 2),.int .i64 (x 3),.int .i64 (x 4)]
theorem RE.put (h:RE w p q k f n ef) (i:Nat) (hi:i < k) (x:Nat → Int):RE (set5 w q (i * 5) x) p q k f n (upd ef i x):=by
 have hF:Fr (· = q) w (set5 w q (i * 5) x):=set5_fr w q _ x rfl
 have hp:¬ p = q:=h.ne
 refine ⟨(hF.cell (p:=⟨p,0,none⟩) h.plt hp).trans h.c0,(hF.cell (p:=⟨p,1,none⟩) h.plt hp).trans h.c1,(hF.cell (p:=⟨p,2,none⟩) h.plt hp).trans h.c2,
  fun o=>(hF.frozen (p:=⟨p,o,none⟩) h.plt hp).trans (h.fz o),fun o=>?_,fun j hj c hc=>?_,h.ne,h.k1,h.k2,h.fk,h.nk⟩
 ·rw [set5_frozen];exact h.gz o
 ·by_cases e:j = i
  ·subst e;rw [upd_self];exact set5_cell (h.el j hj) c hc
  ·rw [upd_ne _ _ e,set5_other (.inr (by simp only;omega))];exact h.el j hj c hc
theorem RE.setN (h:RE w p q k f n ef) (m:Nat) (hm:m ≤ k):RE (w.setCell ⟨p,2,none⟩ (.int .i64 m)) p q k f m ef:=by
 have hq:q ≠ p:=Ne.symm h.ne
 refine ⟨?_,?_,World.cell?_setCell_same _ _ _ h.c2,fun o=>by simpa using h.fz o,fun o=>by simpa using h.gz o,fun j hj c hc=>?_,h.ne,h.k1,h.k2,h.fk,hm⟩
 ·rw [World.cell?_setCell_other _ _ _ _ (addr_ne (by omega))];exact h.c0
 ·rw [World.cell?_setCell_other _ _ _ _ (addr_ne (by omega))];exact h.c1
 ·rw [World.cell?_setCell_other _ _ _ _ (addr_ne' h.ne)];exact h.el j hj c hc
theorem RE.setF (h:RE w p q k f n ef) (m:Nat) (hm:m < k):RE (w.setCell ⟨p,1,none⟩ (.int .i64 m)) p q k m n ef:=by
 have hq:q ≠ p:=Ne.symm h.ne
 refine ⟨?_,World.cell?_setCell_same _ _ _ h.c1,?_,fun o=>by simpa using h.fz o,fun o=>by simpa using h.gz o,fun j hj c hc=>?_,h.ne,h.k1,h.k2,hm,h.nk⟩
 ·rw [World.cell?_setCell_other _ _ _ _ (addr_ne (by omega))];exact h.c0
 ·rw [World.cell?_setCell_other _ _ _ _ (addr_ne (by omega))];exact h.c2
 ·rw [World.cell?_setCell_other _ _ _ _ (addr_ne' h.ne)];exact h.el j hj c hc
theorem eat_is (h:RE w p q k f n ef) {i g:Nat} (hi:i ≤ 4096) (hg:(f + i) % k = g) :
  Calls Tryz.prog 210 #[.pointer (some ⟨p,0,none⟩),.int .i64 i] w fun e w'=>e = .returned (.int .i64 g) ∧ ∃ m,w' = w.drewN m:=by
 have:=eat_any h i hi
 rw [hg] at this
 exact this
theorem eput_is (h:RE w p q k f n ef) (hn:n < k) (x:Nat → Int) {g:Nat} (hg:(f + n) % k = g) :
  Calls Tryz.prog 182 #[.pointer (some ⟨p,0,none⟩),ev5 x] w fun e w'=>e = .returned (.int .i64 0) ∧ RE w' p q k f (n + 1) (upd ef g x) ∧ Fr (fun j=>j = p ∨ j = q) w w':=by
 have hpl:=h.plt
 have hql:=h.qlt
 have hbw:=bel_alloc (Below.refl w.heap.size w) (.cells #[.int .i64 (x 0),.int .i64 (x 1),.int .i64 (x 2),.int .i64 (x 3),.int .i64 (x 4)] 44)
 have b0:=cell_newb w #[.int .i64 (x 0),.int .i64 (x 1),.int .i64 (x 2),.int .i64 (x 3),.int .i64 (x 4)] 44 _ 0 _ rfl rfl
 have b1:=cell_newb w #[.int .i64 (x 0),.int .i64 (x 1),.int .i64 (x 2),.int .i64 (x 3),.int .i64 (x 4)] 44 _ 1 _ rfl rfl
 have b2:=cell_newb w #[.int .i64 (x 0),.int .i64 (x 1),.int .i64 (x 2),.int .i64 (x 3),.int .i64 (x 4)] 44 _ 2 _ rfl rfl
 have b3:=cell_newb w #[.int .i64 (x 0),.int .i64 (x 1),.int .i64 (x 2),.int .i64 (x 3),.int .i64 (x 4)] 44 _ 3 _ rfl rfl
 have b4:=cell_newb w #[.int .i64 (x 0),.int .i64 (x 1),.int .i64 (x 2),.int .i64 (x 3),.int .i64 (x 4)] 44 _ 4 _ rfl rfl
 have hF0:Fr (fun j=>j = p ∨ j = q) w (w.alloc (.cells #[.int .i64 (x 0),.int .i64 (x 1),.int .i64 (x 2),.int .i64 (x 3),.int .i64 (x 4)] 44)):=Fr.of_below hbw
 have h1:=h.keep (T:=fun _=>False) (Fr.of_below hbw) (by simp) (by simp)
 have HF0:=Lib.hid hF0
 clear h hF0 hbw
 unfold ev5
 go_enter Tryz.func182,Tryz.ntmps182
 go_wp2_with fail
 generalize w.heap.size = wb at *
 generalize w.alloc (.cells #[.int .i64 (x 0),.int .i64 (x 1),.int .i64 (x 2),.int .i64 (x 3),.int .i64 (x 4)] 44) = w1 at *
 have c0:=h1.c0
 have c2:=h1.c2
 have hz0:=h1.gz (g * 5)
 have hz1:=h1.gz (g * 5 + 1)
 have hz2:=h1.gz (g * 5 + 2)
 have hz3:=h1.gz (g * 5 + 3)
 have hz4:=h1.gz (g * 5 + 4)
 have hy2:=h1.fz 2
 have hk2:=h1.k2
 have hne:((n:Int) == (k:Int)) = false:=by simp;omega
 have hi0:(0:Int) ≤ (g:Int):=by omega
 have hik:g < k:=by rw [← hg];exact Nat.mod_lt _ h1.k1
 have hi1:(g:Int) < (k:Int):=by omega
 have he0:=h1.el _ hik 0 (by omega)
 have he1:=h1.el _ hik 1 (by omega)
 have he2:=h1.el _ hik 2 (by omega)
 have he3:=h1.el _ hik 3 (by omega)
 have he4:=h1.el _ hik 4 (by omega)
 simp only [Nat.add_zero] at he0
 have hpq:=h1.ne
 have HF:=Lib.hid (fun m=>(((h1.drewN m).put _ hik x)).setN (n + 1) (by omega))
 have HR:=Lib.hid (fun (w':World) (h:RE w' p q k f n ef)=>eat_is h (i:=n) (g:=g) (by omega) hg)
 have HH:=Lib.hid h1
 clear h1 hik hg
 go_quiet (fail)
 go_wp2_with fail
 go_region_law (go_simp;go_at_call 210;refine (HR.out _ (by first | exact HH.out | exact HH.out.drewN _ | exact HH.out.drew)).mono ?_;rintro e w4 ⟨rfl,m4,rfl⟩)
 all_goals
  go_wp2_with fail
  go_ret
  exact ⟨rfl,HF.out _,((HF0.out.drewN _).trans (set5_fr (S:=fun j=>j = p ∨ j = q) _ q (g * 5) x (.inr rfl)) (fun _ _ h=>h) (fun _ _ h=>h)).setCell (p:=⟨p,2,none⟩) (.inl rfl) _⟩
theorem Tryz.info44:(Tryz.prog.info? 44).map (fun i=>(i.zero,i.size,i.bytes)) = some (some (.agg #[.int .i64 0,.int .i64 0,.int .i64 0,.int .i64 0,.int .i64 0]),5,40):=by kernel_rfl
structure Blk5 (w:World) (b:Nat) (x:Nat → Int):Prop where
 c:∀ j,j < 5 → w.cell? ⟨b,j,none⟩ = some (.int .i64 (x j))
 z:∀ o,w.frozen? ⟨b,o,none⟩ = false
theorem Blk5.lt {b:Nat} {x:Nat → Int} (h:Blk5 w b x):b < w.heap.size:=block_lt (h.c 0 (by omega))
theorem Blk5.keep {T:Nat → Prop} {b:Nat} {x:Nat → Int} (h:Blk5 w b x) (hf:Fr T w w') (hb:¬ T b):Blk5 w' b x :=
 ⟨fun j hj=>(hf.cell (p:=⟨b,j,none⟩) h.lt hb).trans (h.c j hj),fun o=>(hf.frozen (p:=⟨b,o,none⟩) h.lt hb).trans (h.z o)⟩
theorem Blk5.new (w:World):Blk5 (w.alloc (.cells #[.int .i64 0,.int .i64 0,.int .i64 0,.int .i64 0,.int .i64 0] 44)) w.heap.size (fun _=>0) :=
 ⟨fun j hj=>cell_newb w _ 44 _ j _ rfl (by match j,hj with | 0,_=>rfl | 1,_=>rfl | 2,_=>rfl | 3,_=>rfl | 4,_=>rfl),fun o=>by simp⟩
theorem etake_is (h:RE w p q k f n ef) (hn:0 < n) {g:Nat} (hg:(f + 1) % k = g) :
  Calls Tryz.prog 181 #[.pointer (some ⟨p,0,none⟩)] w fun e w'=>(∃ v,e = .returned v) ∧ (∃ ef',RE w' p q k g (n - 1) ef') ∧ Fr (fun j=>j = p ∨ j = q) w w':=by
 have hb1:Below w.heap.size w (w.alloc (.cells #[.int .i64 0,.int .i64 0,.int .i64 0,.int .i64 0,.int .i64 0] 44)):=bel_alloc (Below.refl _ _) _
 have hb2:=bel_alloc hb1 (.cells #[.int .i64 0,.int .i64 0,.int .i64 0,.int .i64 0,.int .i64 0] 44)
 have B1:=(Blk5.new w).keep (T:=fun _=>False) ((Fr.refl _ (w.alloc (.cells #[.int .i64 0,.int .i64 0,.int .i64 0,.int .i64 0,.int .i64 0] 44))).alloc (.cells #[.int .i64 0,.int .i64 0,.int .i64 0,.int .i64 0,.int .i64 0] 44)) (by simp)
 have B2:=Blk5.new (w.alloc (.cells #[.int .i64 0,.int .i64 0,.int .i64 0,.int .i64 0,.int .i64 0] 44))
 have hsz:(w.alloc (.cells #[.int .i64 0,.int .i64 0,.int .i64 0,.int .i64 0,.int .i64 0] 44)).heap.size = w.heap.size + 1:=by simp
 have hsz2:((w.alloc (.cells #[.int .i64 0,.int .i64 0,.int .i64 0,.int .i64 0,.int .i64 0] 44)).alloc (.cells #[.int .i64 0,.int .i64 0,.int .i64 0,.int .i64 0,.int .i64 0] 44)).heap.size = w.heap.size + 1 + 1:=by simp
 rw [hsz] at B2
 have h2:=h.keep (T:=fun _=>False) (Fr.of_below hb2) (by simp) (by simp)
 have HF0:Hid (Fr (fun j=>j = p ∨ j = q) w _):=Fr.of_below hb2
 have hpl:=h.plt
 have hql:=h.qlt
 have cw2:=h.c2
 have hne:((n:Int) == 0) = false:=by simp;omega
 clear h hb1 hb2 hsz
 go_enter Tryz.func181,Tryz.ntmps181
 go_wp2_with fail
 generalize hwb:w.heap.size = wb at *
 have HWB:=Lib.hid hwb
 clear hwb
 generalize (w.alloc (.cells #[.int .i64 0,.int .i64 0,.int .i64 0,.int .i64 0,.int .i64 0] 44)).alloc (.cells #[.int .i64 0,.int .i64 0,.int .i64 0,.int .i64 0,.int .i64 0] 44) = w2 at *
 have c0:=h2.c0
 have c1:=h2.c1
 have c2:=h2.c2
 have hk2:=h2.k2
 have hi0:(0:Int) ≤ (f:Int):=by omega
 have hik:f < k:=h2.fk
 have hgk:g < k:=by rw [← hg];exact Nat.mod_lt _ h2.k1
 have hi1:(f:Int) < (k:Int):=by omega
 have he0:=h2.el _ hik 0 (by omega)
 have he1:=h2.el _ hik 1 (by omega)
 have he2:=h2.el _ hik 2 (by omega)
 have he3:=h2.el _ hik 3 (by omega)
 have he4:=h2.el _ hik 4 (by omega)
 simp only [Nat.add_zero] at he0
 have hp2:=h2.plt
 have hq2:=h2.qlt
 have hal:∀ (o:Obj) (a:Addr),a.block < w2.heap.size → (w2.alloc o).cell? a = w2.cell? a:=fun o a ha=>((Fr.refl (fun _=>False) w2).alloc o).cell ha (by simp)
 have a0:=fun o=>(hal o ⟨p,0,none⟩ hp2).trans c0
 have a1:=fun o=>(hal o ⟨p,1,none⟩ hp2).trans c1
 have ae0:=fun o=>(hal o ⟨q,f * 5,none⟩ hq2).trans he0
 have ae1:=fun o=>(hal o ⟨q,f * 5 + 1,none⟩ hq2).trans he1
 have ae2:=fun o=>(hal o ⟨q,f * 5 + 2,none⟩ hq2).trans he2
 have ae3:=fun o=>(hal o ⟨q,f * 5 + 3,none⟩ hq2).trans he3
 have ae4:=fun o=>(hal o ⟨q,f * 5 + 4,none⟩ hq2).trans he4
 clear hal
 go_region
 have hF3:Fr (fun _=>False) w2 (w2.alloc (.cells #[.int .i64 (ef f 0),.int .i64 (ef f 1),.int .i64 (ef f 2),.int .i64 (ef f 3),.int .i64 (ef f 4)] 44)).drew:=((Fr.refl _ w2).alloc _).drew
 have h3:=h2.keep hF3 (by simp) (by simp)
 have D1:=B1.keep hF3 (by simp)
 have D2:=B2.keep hF3 (by simp)
 have D3:Blk5 (w2.alloc (.cells #[.int .i64 (ef f 0),.int .i64 (ef f 1),.int .i64 (ef f 2),.int .i64 (ef f 3),.int .i64 (ef f 4)] 44)).drew (wb + 1 + 1) (ef f) :=
  ⟨fun j hj=>by rw [World.cell?_drew];exact cell_newb w2 _ 44 _ j _ hsz2.symm (by match j,hj with | 0,_=>rfl | 1,_=>rfl | 2,_=>rfl | 3,_=>rfl | 4,_=>rfl),fun o=>by rw [World.frozen?_drew,← hsz2];simp⟩
 have HF3:Hid (Fr (fun j=>j = p ∨ j = q) w _):=HF0.out.trans hF3 (fun _ _ h=>h) (fun _ _ h=>h.elim)
 clear a0 a1 ae0 ae1 ae2 ae3 ae4 he0 he1 he2 he3 he4 c0 c1 c2 cw2 hF3 h2 B1 B2 HF0 hp2 hq2 hsz2
 generalize (w2.alloc (.cells #[.int .i64 (ef f 0),.int .i64 (ef f 1),.int .i64 (ef f 2),.int .i64 (ef f 3),.int .i64 (ef f 4)] 44)).drew = w3 at *
 have c0:=h3.c0
 have c1:=h3.c1
 have he0:=h3.el _ hik 0 (by omega)
 have he1:=h3.el _ hik 1 (by omega)
 have he2:=h3.el _ hik 2 (by omega)
 have he3:=h3.el _ hik 3 (by omega)
 have he4:=h3.el _ hik 4 (by omega)
 have hz0:=h3.gz (f * 5)
 have hz1:=h3.gz (f * 5 + 1)
 have hz2:=h3.gz (f * 5 + 2)
 have hz3:=h3.gz (f * 5 + 3)
 have hz4:=h3.gz (f * 5 + 4)
 have b0:=D2.c 0 (by omega)
 have b1:=D2.c 1 (by omega)
 have b2:=D2.c 2 (by omega)
 have b3:=D2.c 3 (by omega)
 have b4:=D2.c 4 (by omega)
 simp only [Nat.add_zero] at he0
 go_wp2_with fail
 go_region
 all_goals
  change Exit.then _ _ _ _ ((set5 w3 q (f * 5) fun _=>0).drew)
  have h4:=(h3.put f hik (fun _=>0)).drew
  have hF4:Fr (· = q) w3 (set5 w3 q (f * 5) fun _=>0).drew:=(set5_fr (S:=fun j=>j = q) w3 q (f * 5) (fun _=>0) rfl).drew
  have E1:=D1.keep hF4 (by show ¬ wb = q;omega)
  have E3:=D3.keep hF4 (by show ¬ wb + 1 + 1 = q;omega)
  have HF4:Hid (Fr (fun j=>j = p ∨ j = q) w _):=HF3.out.trans hF4 (fun _ _ h=>h) (fun _ _ h=>.inr h)
  clear c0 c1 he0 he1 he2 he3 he4 hz0 hz1 hz2 hz3 hz4 b0 b1 b2 b3 b4 hF4 D1 D2 D3 h3 HF3
  generalize (set5 w3 q (f * 5) fun _=>0).drew = w4 at *
  have HR:=Lib.hid (eat_is h4 (i:=1) (g:=g) (by omega) hg)
  have c1:=h4.c1
  have c2:=h4.c2
  have z1:=h4.fz 1
  have z2:=h4.fz 2
  have hnI:((n - 1:Nat):Int) = (n:Int) - 1:=by omega
  have hn1:(1:Int) ≤ (n:Int):=by omega
  have hn2:(n:Int) ≤ 4096:=by have:=h4.nk;omega
  have H2:Hid (∀ m,RE (((w4.drewN m).setCell ⟨p,1,none⟩ (.int .i64 g)).setCell ⟨p,2,none⟩ (.int .i64 ((n:Int) - 1))) p q k g (n - 1) (upd ef f (fun _=>0))):=fun m=>by
   rw [← hnI];exact ((h4.drewN m).setF g hgk).setN (n - 1) (by have:=h4.nk;omega)
  clear h4 hnI
  have hwp:wb ≠ p:=by omega
  have hwq:wb ≠ q:=by omega
  have e0:=E3.c 0 (by omega)
  have e1:=E3.c 1 (by omega)
  have e2:=E3.c 2 (by omega)
  have e3:=E3.c 3 (by omega)
  have e4:=E3.c 4 (by omega)
  have g0:=E1.c 0 (by omega)
  have g1:=E1.c 1 (by omega)
  have g2:=E1.c 2 (by omega)
  have g3:=E1.c 3 (by omega)
  have g4:=E1.c 4 (by omega)
  have y0:=E1.z 0
  have y1:=E1.z 1
  have y2:=E1.z 2
  have y3:=E1.z 3
  have y4:=E1.z 4
  have hp3:wb + 1 + 1 ≠ p:=by omega
  clear E1 E3
  go_wp2_with (go_at_call 210;refine HR.out.mono ?_;rintro e w5 ⟨rfl,m5,rfl⟩)
  have hX:=H2.out m5
  have hFw:Fr (fun j=>j = p ∨ j = q ∨ j = wb) w (((w4.drewN m5).setCell ⟨p,1,none⟩ (.int .i64 g)).setCell ⟨p,2,none⟩ (.int .i64 ((n:Int) - 1))) :=
   (((HF4.out.drewN m5).mono (T:=fun j=>j = p ∨ j = q ∨ j = wb) (fun i _ h=>h.imp id .inl)).setCell (p:=⟨p,1,none⟩) (.inl rfl) _).setCell (p:=⟨p,2,none⟩) (.inl rfl) _
  have hF5:Fr (· = wb) (((w4.drewN m5).setCell ⟨p,1,none⟩ (.int .i64 g)).setCell ⟨p,2,none⟩ (.int .i64 ((n:Int) - 1))) (set5 (((w4.drewN m5).setCell ⟨p,1,none⟩ (.int .i64 g)).setCell ⟨p,2,none⟩ (.int .i64 ((n:Int) - 1))) wb 0 (ef f)):=set5_fr _ wb 0 (ef f) rfl
  exact bodyPost_ret (v:=.tuple #[ev5 (ef f),.bool true]) (by unfold ev5;simp only [results];go_simp) rfl ⟨⟨_,rfl⟩,⟨_,hX.keep hF5 (by show ¬ p = wb;omega) (by show ¬ q = wb;omega)⟩,
   (hFw.trans hF5 (U:=fun j=>j = p ∨ j = q ∨ j = wb) (fun _ _ h=>h) (fun _ _ h=>.inr (.inr h))).mono (fun i hi h=>by
    rcases h with h | h | h
    ·exact .inl h
    ·exact .inr h
    ·have:=HWB.out;omega)⟩
theorem epush_is (h:RE w p q k f n ef) (x:Nat → Int) :
  Calls Tryz.prog 143 #[.pointer (some ⟨p,0,none⟩),ev5 x] w fun e w'=>(∃ b,e = .returned (.bool b)) ∧ (∃ f' n' ef',RE w' p q k f' n' ef') ∧ Fr (fun j=>j = p ∨ j = q) w w':=by
 have hpl:=h.plt
 have hql:=h.qlt
 have hbw:=bel_alloc (Below.refl w.heap.size w) (.cells #[.int .i64 (x 0),.int .i64 (x 1),.int .i64 (x 2),.int .i64 (x 3),.int .i64 (x 4)] 44)
 have hX:Blk5 (w.alloc (.cells #[.int .i64 (x 0),.int .i64 (x 1),.int .i64 (x 2),.int .i64 (x 3),.int .i64 (x 4)] 44)) w.heap.size x :=
  ⟨fun j hj=>cell_newb w _ 44 _ j _ rfl (by match j,hj with | 0,_=>rfl | 1,_=>rfl | 2,_=>rfl | 3,_=>rfl | 4,_=>rfl),fun o=>by simp⟩
 have hF0:Fr (fun j=>j = p ∨ j = q) w (w.alloc (.cells #[.int .i64 (x 0),.int .i64 (x 1),.int .i64 (x 2),.int .i64 (x 3),.int .i64 (x 4)] 44)):=Fr.of_below hbw
 have h1:=h.keep (T:=fun _=>False) (Fr.of_below hbw) (by simp) (by simp)
 have HF0:=Lib.hid hF0
 clear h hF0 hbw
 unfold ev5
 go_enter Tryz.func143,Tryz.ntmps143
 go_wp2_with fail
 generalize w.heap.size = wb at *
 generalize w.alloc (.cells #[.int .i64 (x 0),.int .i64 (x 1),.int .i64 (x 2),.int .i64 (x 3),.int .i64 (x 4)] 44) = w1 at *
 have c0:=h1.c0
 have c2:=h1.c2
 have hk2:=h1.k2
 have hk1:=h1.k1
 have hnk:=h1.nk
 have e0:=hX.c 0 (by omega)
 have e1:=hX.c 1 (by omega)
 have e2:=hX.c 2 (by omega)
 have e3:=hX.c 3 (by omega)
 have e4:=hX.c 4 (by omega)
 obtain ⟨g,hg⟩:∃ g,(f + 1) % k = g:=⟨_,rfl⟩
 obtain ⟨g2,hg2⟩:∃ g2,(f + n) % k = g2:=⟨_,rfl⟩
 have HA:=Lib.hid (fun m=>h1.drewN m)
 by_cases hnk2:n = k
 ·have hne:((n:Int) == (k:Int)) = true:=by simp;omega
  go_quiet (fail)
  all_goals
   have hF1:=HF0.out.drewN (nq)
   have hX1:=hX.keep (T:=fun _=>False) ((Fr.refl _ w1).drewN nq) (by simp)
   have h2:=HA.out nq
   clear e0 e1 e2 e3 e4 c0 c2 HF0 hX h1 HA
   generalize w1.drewN nq = w2 at *
   have HT:=Lib.hid (etake_is h2 (by omega) hg)
   have hg4:(g + (n - 1)) % k = f:=by
    have hfk:=h2.fk
    subst hg;subst hnk2
    by_cases e:f + 1 = n
    ·rw [e,Nat.mod_self,Nat.zero_add,Nat.mod_eq_of_lt (by omega)];omega
    ·rw [Nat.mod_eq_of_lt (by omega:f + 1 < n),show f + 1 + (n - 1) = f + n by omega,Nat.add_mod_right,Nat.mod_eq_of_lt hfk]
   have HG:=Lib.hid hg4
   have hnl:n - 1 < k:=by omega
   have hbp:¬ (wb = p ∨ wb = q):=by omega
   clear hg hg2 hg4
   go_wp2_with (first | (go_at_call 181;refine HT.out.mono ?_;rintro e w4 ⟨⟨v4,rfl⟩,h4,f4⟩;obtain ⟨ef4,h4⟩:=h4;have X4:=hX1.keep f4 hbp;have e0:=X4.c 0 (by omega);have e1:=X4.c 1 (by omega);have e2:=X4.c 2 (by omega);have e3:=X4.c 3 (by omega);have e4:=X4.c 4 (by omega);have H4:=Lib.hid h4;have F4:=Lib.hid f4;clear h4 f4) | (go_at_call 182;refine Calls.mono (eput_is H4.out hnl x HG.out) ?_;rintro e w5 ⟨rfl,h5,f5⟩))
   go_ret
   exact ⟨⟨_,rfl⟩,⟨_,_,_,h5⟩,(hF1.trans F4.out (fun _ _ h=>h) (fun _ _ h=>h)).trans f5 (fun _ _ h=>h) (fun _ _ h=>h)⟩
 ·have hne:((n:Int) == (k:Int)) = false:=by simp;omega
  go_quiet (fail)
  all_goals
   have hF1:=HF0.out.drewN (nq)
   have X4:=hX.keep (T:=fun _=>False) ((Fr.refl _ w1).drewN nq) (by simp)
   have h2:=HA.out nq
   clear e0 e1 e2 e3 e4 c0 c2 HF0 hX h1 HA
   generalize w1.drewN nq = w2 at *
   have e0:=X4.c 0 (by omega)
   have e1:=X4.c 1 (by omega)
   have e2:=X4.c 2 (by omega)
   have e3:=X4.c 3 (by omega)
   have e4:=X4.c 4 (by omega)
   have HT:=Lib.hid (eput_is h2 (by omega) x hg2)
   clear hg hg2
   go_wp2_with (go_at_call 182;refine Calls.mono HT.out ?_;rintro e w5 ⟨rfl,h5,f5⟩)
   go_ret
   exact ⟨⟨_,rfl⟩,⟨_,_,_,h5⟩,hF1.trans f5 (fun _ _ h=>h) (fun _ _ h=>h)⟩
theorem enew_good (k:Nat) (w:World) (h1:1 ≤ k) (h2:k ≤ 4096) :
  Calls Tryz.prog 58 #[.int .i64 k] w fun e w'=>(∃ p q,e = .returned (.tuple #[.pointer (some ⟨p,0,none⟩),.int .i64 0]) ∧ RE w' p q k 0 0 (fun _ _=>0) ∧ w.heap.size ≤ p ∧ w.heap.size ≤ q) ∧ Below w.heap.size w w':=by
 have hi1:(1:Int) ≤ (k:Int):=by omega
 have hi2:(k:Int) ≤ 4096:=by omega
 obtain ⟨i0,ki,kz0,kz1,kz2⟩:=info_parts Tryz.info44
 go_enter Tryz.func58,Tryz.ntmps58
 go_wp2_with (refine wpList_make_full _ rfl _ _ 36 rfl w.heap.size 44 i0 (.agg #[.int .i64 0,.int .i64 0,.int .i64 0,.int .i64 0,.int .i64 0]) 5 Tryz.underlying36 ki kz0 kz1 .i64 .i64 _ _ k rfl rfl rfl rfl (by rw [kz2];omega) (by unfold maxLen;omega) (by omega) ?_;intro w5 hown hgrow)
 obtain ⟨g,cap,hv,hbg,hg,hc,hcell,hfz⟩:=ownsRow_cells hown (by omega)
 simp only [Value.slice.injEq,Option.some.injEq,Addr.mk.injEq,true_and,and_true] at hv
 obtain ⟨rfl,rfl⟩:=hv
 go_ret2
 have hb5:Below w.heap.size w w5:=(Below.refl _ _).grown hgrow (Nat.le_refl _) (fun j e=>by cases e)
 have hne:w5.heap.size ≠ w.heap.size:=by omega
 refine ⟨⟨w5.heap.size,w.heap.size,rfl,⟨?_,?_,?_,fun o=>?_,fun o=>?_,fun i hi j hj=>?_,hne,h1,h2,h1,Nat.zero_le _⟩,hb5.size,Nat.le_refl _⟩,hb5.alloc hb5.size _⟩
 ·exact cell_newb _ _ _ _ 0 _ rfl rfl
 ·exact cell_newb _ _ _ _ 1 _ rfl rfl
 ·exact cell_newb _ _ _ _ 2 _ rfl rfl
 ·simp
 ·rw [World.frozen?_alloc_old _ _ _ (by simpa using Ne.symm hne)];exact hfz o
 ·rw [World.cell?_alloc_past _ _ _ (by omega)]
  exact hcell (i * 5 + j) _ (by
   rw [Array.getElem?_toList]
   unfold madeCells
   rw [Array.getElem?_map,Array.getElem?_range,if_pos (by omega)]
   have hm:(i * 5 + j) % 5 = j:=by omega
   show some (#[Value.int .i64 0,.int .i64 0,.int .i64 0,.int .i64 0,.int .i64 0][(i * 5 + j) % 5]!) = _
   rw [hm]
   match j,hj with | 0,_=>rfl | 1,_=>rfl | 2,_=>rfl | 3,_=>rfl | 4,_=>rfl)
end
end
end Go.Proofs.YtnoahekcemfmcaaGreatDoor
