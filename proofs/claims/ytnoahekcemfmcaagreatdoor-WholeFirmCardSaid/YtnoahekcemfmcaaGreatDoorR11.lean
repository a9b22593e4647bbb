/- A part of the walk: Rb Wn. -/
import Derived.Test.YtnoahekcemfmcaaGreatDoorR01
import Derived.Test.YtnoahekcemfmcaaGreatDoorR02
import Derived.Test.YtnoahekcemfmcaaGreatDoorProg
import Derived.Test.YtnoahekcemfmcaaGreatDoorR05
import Derived.Deep.RegionHeld3
import Derived.BigQuiet
import Derived.Deep.QuietTactic
namespace Go.Proofs.YtnoahekcemfmcaaGreatDoor
set_option linter.unusedVariables false
set_option linter.unusedSimpArgs false
set_option maxHeartbeats 80000000
set_option maxRecDepth 100000
section
open Go.RowKit
structure RB (w:World) (p q k f n:Nat) (cf:Nat → Bool):Prop where
 c0:w.cell? ⟨p,0,none⟩ = some (.slice (some ⟨q,0,none⟩) k k)
 c1:w.cell? ⟨p,1,none⟩ = some (.int .i64 f)
 c2:w.cell? ⟨p,2,none⟩ = some (.int .i64 n)
 fz:∀ o,w.frozen? ⟨p,o,none⟩ = false
 gz:∀ o,w.frozen? ⟨q,o,none⟩ = false
 el:∀ i,i < k → w.cell? ⟨q,i,none⟩ = some (.bool (cf i))
 ne:p ≠ q
 k1:1 ≤ k
 k2:k ≤ 4096
 fk:f < k
 nk:n ≤ k
section
variable {w w':World} {p q k f n:Nat} {cf:Nat → Bool}
theorem RB.plt (h:RB w p q k f n cf):p < w.heap.size:=block_lt h.c0
theorem RB.qlt (h:RB w p q k f n cf):q < w.heap.size:=block_lt (h.el 0 h.k1)
theorem RB.keep {T:Nat → Prop} (h:RB w p q k f n cf) (hf:Fr T w w') (hp:¬ T p) (hq:¬ T q):RB w' p q k f n cf :=
 ⟨(hf.cell (p:=⟨p,0,none⟩) h.plt hp).trans h.c0,(hf.cell (p:=⟨p,1,none⟩) h.plt hp).trans h.c1,(hf.cell (p:=⟨p,2,none⟩) h.plt hp).trans h.c2,
  fun o=>(hf.frozen (p:=⟨p,o,none⟩) h.plt hp).trans (h.fz o),fun o=>(hf.frozen (p:=⟨q,o,none⟩) h.qlt hq).trans (h.gz o),
  fun i hi=>(hf.cell (p:=⟨q,i,none⟩) h.qlt hq).trans (h.el i hi),h.ne,h.k1,h.k2,h.fk,h.nk⟩
theorem RB.drewN (h:RB w p q k f n cf) (m:Nat):RB (w.drewN m) p q k f n cf:=h.keep (T:=fun _=>False) ((Fr.refl _ w).drewN m) (by simp) (by simp)
theorem mod_int (a b:Nat) (k:Nat):((a:Int) + (b:Int)) % (k:Int) = (((a + b) % k:Nat):Int):=by rw [Int.natCast_emod,Int.natCast_add]
theorem rat_any (h:RB w p q k f n cf) (i:Nat) (hi:i ≤ 4096) :
  Calls Tryz.prog 137 #[.pointer (some ⟨p,0,none⟩),.int .i64 i] w fun e w'=>e = .returned (.int .i64 ((f + i) % k:Nat)) ∧ ∃ m,w' = w.drewN m:=by
 have c0:=h.c0
 have c1:=h.c1
 have hk1:=h.k1
 have hk2:=h.k2
 have hf:=h.fk
 have hk0:((k:Int) == 0) = false:=by simp;omega
 clear h
 go_enter Tryz.func137,Tryz.ntmps137
 go_wp2_with fail
 go_quiet (fail)
 all_goals
  go_wp2_with fail
  go_ret
  exact ⟨ret_int (mod_int f i k),_,rfl⟩
theorem RB.put (h:RB w p q k f n cf) (i:Nat) (hi:i < k) (x:Bool):RB (w.setCell ⟨q,i,none⟩ (.bool x)) p q k f n (upd cf i x):=by
 have hF:Fr (· = q) w (w.setCell ⟨q,i,none⟩ (.bool x)):=(Fr.refl (· = q) w).setCell (p:=⟨q,i,none⟩) rfl _
 have hp:¬ p = q:=h.ne
 refine ⟨(hF.cell (p:=⟨p,0,none⟩) h.plt hp).trans h.c0,(hF.cell (p:=⟨p,1,none⟩) h.plt hp).trans h.c1,(hF.cell (p:=⟨p,2,none⟩) h.plt hp).trans h.c2,
  fun o=>(hF.frozen (p:=⟨p,o,none⟩) h.plt hp).trans (h.fz o),fun o=>?_,fun j hj=>?_,h.ne,h.k1,h.k2,h.fk,h.nk⟩
 ·simpa using h.gz o
 ·by_cases e:j = i
  ·subst e;rw [upd_self];exact World.cell?_setCell_same _ _ _ (h.el j hj)
  ·rw [upd_ne _ _ e,World.cell?_setCell_other _ _ _ _ (addr_ne (Ne.symm e))];exact h.el j hj
theorem RB.setN (h:RB w p q k f n cf) (m:Nat) (hm:m ≤ k):RB (w.setCell ⟨p,2,none⟩ (.int .i64 m)) p q k f m cf:=by
 have hq:q ≠ p:=Ne.symm h.ne
 refine ⟨?_,?_,World.cell?_setCell_same _ _ _ h.c2,fun o=>by simpa using h.fz o,fun o=>by simpa using h.gz o,fun j hj=>?_,h.ne,h.k1,h.k2,h.fk,hm⟩
 ·rw [World.cell?_setCell_other _ _ _ _ (addr_ne (by omega))];exact h.c0
 ·rw [World.cell?_setCell_other _ _ _ _ (addr_ne (by omega))];exact h.c1
 ·rw [World.cell?_setCell_other _ _ _ _ (addr_ne' h.ne)];exact h.el j hj
theorem RB.setF (h:RB w p q k f n cf) (m:Nat) (hm:m < k):RB (w.setCell ⟨p,1,none⟩ (.int .i64 m)) p q k m n cf:=by
 have hq:q ≠ p:=Ne.symm h.ne
 refine ⟨?_,World.cell?_setCell_same _ _ _ h.c1,?_,fun o=>by simpa using h.fz o,fun o=>by simpa using h.gz o,fun j hj=>?_,h.ne,h.k1,h.k2,hm,h.nk⟩
 ·rw [World.cell?_setCell_other _ _ _ _ (addr_ne (by omega))];exact h.c0
 ·rw [World.cell?_setCell_other _ _ _ _ (addr_ne (by omega))];exact h.c2
 ·rw [World.cell?_setCell_other _ _ _ _ (addr_ne' h.ne)];exact h.el j hj
theorem rat_is (h:RB w p q k f n cf) {i g:Nat} (hi:i ≤ 4096) (hg:(f + i) % k = g) :
  Calls Tryz.prog 137 #[.pointer (some ⟨p,0,none⟩),.int .i64 i] w fun e w'=>e = .returned (.int .i64 g) ∧ ∃ m,w' = w.drewN m:=by
 have:=rat_any h i hi
 rw [hg] at this
 exact this
theorem rput_is (h:RB w p q k f n cf) (hn:n < k) (x:Bool) {g:Nat} (hg:(f + n) % k = g) :
  Calls Tryz.prog 92 #[.pointer (some ⟨p,0,none⟩),.bool x] w fun e w'=>e = .returned (.int .i64 0) ∧ RB w' p q k f (n + 1) (upd cf g x) ∧ Fr (fun j=>j = p ∨ j = q) w w':=by
 have c0:=h.c0
 have c2:=h.c2
 have hz:=h.gz g
 have hz2:=h.fz 2
 have hk2:=h.k2
 have hne:((n:Int) == (k:Int)) = false:=by simp;omega
 have hi0:(0:Int) ≤ (g:Int):=by omega
 have hik:g < k:=by rw [← hg];exact Nat.mod_lt _ h.k1
 have hi1:(g:Int) < (k:Int):=by omega
 have he:=h.el _ hik
 have hpq:=h.ne
 have HF:=Lib.hid (fun m=>(((h.drewN m).put _ hik x)).setN (n + 1) (by omega))
 have HR:=Lib.hid (fun (w':World) (h:RB w' p q k f n cf)=>rat_is h (i:=n) (g:=g) (by omega) hg)
 have HH:=Lib.hid h
 clear h hik hg
 go_enter Tryz.func92,Tryz.ntmps92
 go_wp2_with fail
 go_quiet (fail)
 go_wp2_with fail
 go_region_law (go_simp;go_at_call 137;refine (HR.out _ (by first | exact HH.out | exact HH.out.drewN _ | exact HH.out.drew)).mono ?_;rintro e w4 ⟨rfl,m4,rfl⟩)
 all_goals
  go_wp2_with fail
  go_ret
  exact ⟨rfl,HF.out _,(((Fr.refl _ _).drewN _).setCell (S:=fun j=>j = p ∨ j = q) (p:=⟨q,g,none⟩) (.inr rfl) _).setCell (p:=⟨p,2,none⟩) (.inl rfl) _⟩
theorem rtake_is (h:RB w p q k f n cf) (hn:0 < n) {g:Nat} (hg:(f + 1) % k = g) :
  Calls Tryz.prog 209 #[.pointer (some ⟨p,0,none⟩)] w fun e w'=>(∃ b,e = .returned (.tuple #[.bool b,.bool true])) ∧ RB w' p q k g (n - 1) (upd cf f false) ∧ Fr (fun j=>j = p ∨ j = q) w w':=by
 have c0:=h.c0
 have c1:=h.c1
 have c2:=h.c2
 have hz:=h.gz f
 have hz1:=h.fz 1
 have hz2:=h.fz 2
 have hk2:=h.k2
 have hne:((n:Int) == 0) = false:=by simp;omega
 have hi0:(0:Int) ≤ (f:Int):=by omega
 have hik:f < k:=h.fk
 have hgk:g < k:=by rw [← hg];exact Nat.mod_lt _ h.k1
 have hi1:(f:Int) < (k:Int):=by omega
 have he:=h.el _ hik
 have hpq:=h.ne
 have hnI:((n - 1:Nat):Int) = (n:Int) - 1:=by omega
 have hn1:(1:Int) ≤ (n:Int):=by omega
 have hn2:(n:Int) ≤ 4096:=by have:=h.nk;omega
 have H1:Hid (∀ m,RB ((w.drewN m).setCell ⟨q,f,none⟩ (.bool false)) p q k f n (upd cf f false)):=fun m=>(h.drewN m).put _ hik false
 have H2:Hid (∀ w',RB w' p q k f n (upd cf f false) → RB ((w'.setCell ⟨p,1,none⟩ (.int .i64 g)).setCell ⟨p,2,none⟩ (.int .i64 ((n:Int) - 1))) p q k g (n - 1) (upd cf f false)):=fun w' h'=>by
  rw [← hnI];exact (h'.setF g hgk).setN (n - 1) (by have:=h.nk;omega)
 have HR:=Lib.hid (fun (w':World) (h:RB w' p q k f n (upd cf f false))=>rat_is h (i:=1) (g:=g) (by omega) hg)
 clear h hik hg hnI
 go_enter Tryz.func209,Tryz.ntmps209
 go_wp2_with fail
 go_quiet (fail)
 go_wp2_with fail
 go_region
 all_goals
  have h1:=H1.out (nq + 1)
  have hF:Fr (fun j=>j = p ∨ j = q) w ((w.drewN (nq + 1)).setCell ⟨q,f,none⟩ (.bool false)):=((Fr.refl _ _).drewN _).setCell (p:=⟨q,f,none⟩) (.inr rfl) _
  have HFr:=Lib.hid hF
  clear hF
  generalize (w.drewN (nq + 1)).setCell ⟨q,f,none⟩ (.bool false) = w1 at *
  have d1:=h1.c1
  have d2:=h1.c2
  have y1:=h1.fz 1
  have y2:=h1.fz 2
  clear c0 c1 c2 hz hz1 hz2 he
  go_wp2_with (go_at_call 137;refine (HR.out _ h1).mono ?_;rintro e w4 ⟨rfl,m4,rfl⟩)
  go_ret2
  exact ⟨⟨_,rfl⟩,H2.out _ (h1.drewN m4),(((HFr.out).drewN _).setCell (p:=⟨p,1,none⟩) (.inl rfl) _).setCell (p:=⟨p,2,none⟩) (.inl rfl) _⟩
theorem rpush_is (h:RB w p q k f k cf) (x:Bool) {g:Nat} (hg:(f + 1) % k = g) :
  Calls Tryz.prog 179 #[.pointer (some ⟨p,0,none⟩),.bool x] w fun e w'=>e = .returned (.bool true) ∧ RB w' p q k g k (upd cf f x) ∧ Fr (fun j=>j = p ∨ j = q) w w':=by
 have c0:=h.c0
 have c2:=h.c2
 have hk1:=h.k1
 have hk2:=h.k2
 have hfk:=h.fk
 have hgf:(g + (k - 1)) % k = f:=by
  subst hg
  by_cases e:f + 1 = k
  ·rw [e,Nat.mod_self,Nat.zero_add,Nat.mod_eq_of_lt (by omega)];omega
  ·rw [Nat.mod_eq_of_lt (by omega:f + 1 < k),show f + 1 + (k - 1) = f + k by omega,Nat.add_mod_right,Nat.mod_eq_of_lt hfk]
 have hne:((k:Int) == (k:Int)) = true:=by simp
 have HT:=Lib.hid (fun (m:Nat)=>rtake_is (h.drewN m) h.k1 hg)
 have HP:=Lib.hid (fun (w':World) (h':RB w' p q k g (k - 1) (upd cf f false))=>rput_is h' (by omega) x hgf)
 have HC:Hid (∀ w',RB w' p q k g (k - 1 + 1) (upd (upd cf f false) f x) → RB w' p q k g k (upd cf f x)):=fun w' h'=>by
  have e1:k - 1 + 1 = k:=by omega
  have e2:upd (upd cf f false) f x = upd cf f x:=by
   funext j
   by_cases e:j = f
   ·subst e;rw [upd_self,upd_self]
   ·rw [upd_ne _ _ e,upd_ne _ _ e,upd_ne _ _ e]
  rw [e1,e2] at h';exact h'
 clear hgf h
 go_enter Tryz.func179,Tryz.ntmps179
 go_wp2_with fail
 go_quiet (fail)
 all_goals
  go_wp2_with (go_at_call 209;refine (HT.out _).mono ?_;rintro e w4 ⟨⟨b,rfl⟩,h4,f4⟩)
  go_wp2_with (go_at_call 92;refine (HP.out _ h4).mono ?_;rintro e w5 ⟨rfl,h5,f5⟩)
  go_ret
  exact ⟨rfl,HC.out _ h5,(((Fr.refl _ _).drewN _).trans f4 (fun _ _ h=>h) (fun _ _ h=>h)).trans f5 (fun _ _ h=>h) (fun _ _ h=>h)⟩
def ringL (k f n:Nat) (cf:Nat → Bool):List Bool:=(List.range n).map fun j=>cf ((f + j) % k)
def bc (b:Bool):Value:=.bool b
def BoolsIn (B:Nat) (w:World) (a:Option Addr) (n:Nat) (xs:List Bool):Prop :=
 xs.length = n ∧ (0 < n → ∃ b off,a = some ⟨b,off,none⟩ ∧ b < B ∧ ∀ j (h:j < xs.length),w.cell? ⟨b,off + j,none⟩ = some (.bool xs[j]))
theorem BoolsIn.keep {w w':World} {a:Option Addr} {n B:Nat} {xs:List Bool} (h:BoolsIn B w a n xs) (hb:Below B w w'):BoolsIn B w' a n xs :=
 ⟨h.1,fun hn=>by
  obtain ⟨b,off,e,hlt,hc⟩:=h.2 hn
  exact ⟨b,off,e,hlt,fun j hj=>(hb.cell (p:=⟨b,off + j,none⟩) hlt).trans (hc j hj)⟩⟩
theorem bools_of_own {w:World} {base e n:Nat} {a:Option Addr} {cap:Nat} {l:List Bool} (h:w.ownsRow base e 1 (.slice a n cap) n (l.map bc)) (hn:l.length = n):BoolsIn w.heap.size w a n l:=by
 subst hn
 refine ⟨rfl,fun h0=>?_⟩
 obtain ⟨g,cap',hv,_,hlt,_,hc,_⟩:=ownsRow_cells h (by omega)
 simp at hv
 obtain ⟨rfl,_⟩:=hv
 refine ⟨g,0,rfl,hlt,fun j hj=>?_⟩
 rw [Nat.zero_add]
 exact hc j _ (by simp [bc,hj])
theorem ringL_len (k f n:Nat) (cf:Nat → Bool):(ringL k f n cf).length = n:=by unfold ringL;simp
theorem ringL_succ (k f n:Nat) (cf:Nat → Bool):ringL k f (n + 1) cf = ringL k f n cf ++ [cf ((f + n) % k)]:=by unfold ringL;rw [List.range_succ,List.map_append];rfl
theorem ringL_push {k f:Nat} (cf:Nat → Bool) (x:Bool) (hf:f < k):ringL k ((f + 1) % k) k (upd cf f x) = pushW (ringL k f k cf) x:=by
 have hl:(ringL k f k cf).length = k:=ringL_len _ _ _ _
 rw [show pushW (ringL k f k cf) x = (ringL k f k cf).drop 1 ++ [x] from rfl]
 apply List.ext_getElem
 ·simp [ringL_len];have:=Nat.zero_le f;omega
 ·intro j h1 h2
  rw [ringL_len] at h1
  have e1:((f + 1) % k + j) % k = (f + (j + 1)) % k:=by rw [Nat.mod_add_mod];congr 1;omega
  by_cases hj:j + 1 < k
  ·rw [List.getElem_append_left (by simp [ringL_len];omega)]
   simp only [ringL,List.getElem_map,List.getElem_range,List.getElem_drop]
   rw [e1,show 1 + j = j + 1 by omega]
   refine upd_ne _ _ ?_
   intro e
   by_cases hlt:f + (j + 1) < k
   ·rw [Nat.mod_eq_of_lt hlt] at e;omega
   ·rw [Nat.mod_eq_sub_mod (by omega),Nat.mod_eq_of_lt (by omega)] at e;omega
  ·rw [List.getElem_append_right (by simp [ringL_len];omega)]
   simp only [ringL,List.getElem_map,List.getElem_range,List.getElem_singleton]
   rw [e1,show f + (j + 1) = f + k by omega,Nat.add_mod_right,Nat.mod_eq_of_lt hf]
   exact upd_self _ _ _
theorem Tryz.info4:(Tryz.prog.info? 4).map (fun i=>(i.zero,i.size,i.bytes)) = some (some (.bool false),1,1):=by kernel_rfl
theorem own_cap {w:World} {base e size n:Nat} {a:Option Addr} {c:Nat} {xs:List Value} (h:w.ownsRow base e size (.slice a n c) n xs):n ≤ c:=by
 rcases Nat.eq_zero_or_pos n with h0 | h0
 ·omega
 ·obtain ⟨g,cap,hv,_,_,hc,_⟩:=ownsRow_cells h h0
  simp only [Value.slice.injEq,true_and] at hv
  omega
theorem own_fr {base e size n:Nat} {v:Value} {xs:List Value} (h:w.ownsRow base e size v n xs) (hf:Fr (fun _=>False) w w'):w'.ownsRow base e size v n xs :=
 ownsRow_keep h fun k hk=>hf.block k (ownsRow_lt h k hk) (by simp)
theorem rall_any (h:RB w p q k f n cf) :
  Calls Tryz.prog 211 #[.pointer (some ⟨p,0,none⟩)] w fun e w'=>(∃ a c,e = .returned (.slice a n c) ∧ n ≤ c ∧ BoolsIn w'.heap.size w' a n (ringL k f n cf)) ∧ Below w.heap.size w w':=by
 have c0:=h.c0
 have c2:=h.c2
 have hk2:=h.k2
 have hnk:=h.nk
 have hp:=h.plt
 have hq:=h.qlt
 have HR:=Lib.hid (fun (w':World) (i g:Nat) (hi:i ≤ 4096) (hg:(f + i) % k = g) (hb:Below w.heap.size w w')=>rat_is (h.keep (T:=fun _=>False) (Fr.of_below hb) (by simp) (by simp)) hi hg)
 have HE:=Lib.hid h
 have hk1:=h.k1
 have hb0:Below w.heap.size w w:=Below.refl _ _
 obtain ⟨i0,ki,kz0,kz1,kz2⟩:=info_parts Tryz.info4
 clear h
 go_enter Tryz.func211,Tryz.ntmps211
 go_wp2_with fail
 go_loopw [3,9] (fun so ix wx=>∃ i:Nat,i ≤ n ∧ ix = .int .i64 i ∧ Hid (wx.ownsRow w.heap.size 4 1 so i ((ringL k f i cf).map bc)) ∧ Below w.heap.size w wx) (fun _ ix _=>n - (intOf ix).toNat)
 case atStart=>exact ⟨0,by omega,rfl,World.ownsRow_nil _ _ _ _,hb0⟩
 case round =>
  clear hb0
  obtain ⟨i,hi,rfl,HO,hb⟩:=hrel
  by_cases hlt:i < n
  ·have hltI:(i:Int) < (n:Int):=by omega
   obtain ⟨g,hg⟩:∃ g,(f + i) % k = g:=⟨_,rfl⟩
   have hgk:g < k:=by rw [← hg];exact Nat.mod_lt _ hk1
   have hi0:(0:Int) ≤ (g:Int):=by omega
   have hi1:(g:Int) < (k:Int):=by omega
   have d0:=(hb.cell (p:=⟨p,0,none⟩) hp).trans c0
   have dg:=(hb.cell (p:=⟨q,g,none⟩) hq).trans (HE.out.el g hgk)
   obtain ⟨a9,c9,rfl⟩:=ownsRow_form HO.out
   have hsz:=hb.size
   go_wp2_with fail
   have hBw:w.heap.size ≤ wr.heap.size:=hb.size
   have HB:=Lib.hid hb
   clear hb
   go_region_law (first | (refine step_append_lies _ (by rfl) _ _ _ (by rfl) w.heap.size 4 i0 _ 1 1 Tryz.underlying42 ki kz0 kz1 kz2 rfl (by omega) _ _ _ (by rfl) (own_fr HO.out (by repeat (first | exact Fr.refl _ _ | refine Fr.alloc ?_ _ | refine Fr.drew ?_ | refine Fr.drewN ?_ _))) ⟨wr.heap.size,0,none⟩ 1 1 [.bool (cf g)] (by rfl) (by rfl) (fun j u hu=>cell_new _ _ _ j u hu) (by simp [Value.oneCell']) (by omega) (by unfold maxLen;omega) (by omega) (by simp;omega) (wr.heap.size + 1) (by simp) ?_;intro gg cap2 w6 hown6 hgrow hat hlt6) | (go_simp;go_at_call 137;refine (HR.out _ i g (by omega) hg (by first | exact HB.out | exact bel_drewN HB.out _ | exact bel_drew HB.out)).mono ?_;rintro e w4 ⟨rfl,m4,rfl⟩))
   all_goals
    have f6:Fr (fun k=>(Value.slice a9 i c9).ownBlock = some k) wr w6:=by
     refine Fr.grown ?_ hgrow (fun g h _=>h)
     repeat (first | exact Fr.refl _ _ | refine Fr.alloc ?_ _ | refine Fr.drew ?_ | refine Fr.drewN ?_ _)
    have HB6:=Lib.hid (HB.out.trans (f6.below (fun j _ e=>ownsRow_block HO.out j e) hBw))
    have HO6:Hid (w6.ownsRow w.heap.size 4 1 (.slice (some ⟨gg,0,none⟩) (i + 1) cap2) (i + 1) ((ringL k f (i + 1) cf).map bc)):=by
     show World.ownsRow _ _ _ _ _ _ _
     rw [ringL_succ,hg,List.map_append]
     exact hown6
    clear hown6 hgrow f6 hat
    go_wp2_with fail
    go_roundw
    case rel=>exact ⟨i + 1,by omega,by simp,HO6.out,HB6.out⟩
    case measure=>simp [intOf];omega
  ·have hie:i = n:=by omega
   subst hie
   obtain ⟨a9,c9,rfl⟩:=ownsRow_form HO.out
   have HB:=Lib.hid hb
   clear hb
   have hl0:((i:Int) < (i:Int)) = False:=by simp
   go_wp2_with fail
   go_ret
   exact ⟨⟨a9,c9,rfl,own_cap HO.out,bools_of_own HO.out (ringL_len _ _ _ _)⟩,HB.out⟩
theorem rnew_good (k:Nat) (w:World) (h1:1 ≤ k) (h2:k ≤ 4096) :
  Calls Tryz.prog 91 #[.int .i64 k] w fun e w'=>(∃ p q,e = .returned (.tuple #[.pointer (some ⟨p,0,none⟩),.int .i64 0]) ∧ RB w' p q k 0 0 (fun _=>false) ∧ w.heap.size ≤ p ∧ w.heap.size ≤ q) ∧ Below w.heap.size w w':=by
 have hi1:(1:Int) ≤ (k:Int):=by omega
 have hi2:(k:Int) ≤ 4096:=by omega
 obtain ⟨i0,ki,kz0,kz1,kz2⟩:=info_parts Tryz.info4
 go_enter Tryz.func91,Tryz.ntmps91
 go_wp2_with (refine wpList_make_full _ rfl _ _ 42 rfl w.heap.size 4 i0 (.bool false) 1 Tryz.underlying42 ki kz0 kz1 .i64 .i64 _ _ k rfl rfl rfl rfl (by rw [kz2];omega) (by unfold maxLen;omega) (by omega) ?_;intro w5 hown hgrow)
 obtain ⟨g,cap,hv,hbg,hg,hc,hcell,hfz⟩:=ownsRow_cells hown (by omega)
 simp only [Value.slice.injEq,Option.some.injEq,Addr.mk.injEq,true_and,and_true] at hv
 obtain ⟨rfl,rfl⟩:=hv
 go_ret2
 have hb5:Below w.heap.size w w5:=(Below.refl _ _).grown hgrow (Nat.le_refl _) (fun j e=>by cases e)
 have hne:w5.heap.size ≠ w.heap.size:=by omega
 refine ⟨⟨w5.heap.size,w.heap.size,rfl,⟨?_,?_,?_,fun o=>?_,fun o=>?_,fun i hi=>?_,hne,h1,h2,h1,Nat.zero_le _⟩,hb5.size,Nat.le_refl _⟩,hb5.alloc hb5.size _⟩
 ·exact cell_newb _ _ _ _ 0 _ rfl rfl
 ·exact cell_newb _ _ _ _ 1 _ rfl rfl
 ·exact cell_newb _ _ _ _ 2 _ rfl rfl
 ·simp
 ·rw [World.frozen?_alloc_old _ _ _ (by simpa using Ne.symm hne)];exact hfz o
 ·rw [World.cell?_alloc_past _ _ _ (by omega)]
  exact hcell i _ (by rw [show (Value.bool false).cells = #[.bool false] from rfl,toList_madeCells_one,List.getElem?_replicate,if_pos (by omega)])
end
end
section
open Go.RowKit
theorem cntT_nonneg (l:List Bool):0 ≤ cntT l:=by unfold cntT;omega
theorem cntT_le (l:List Bool):cntT l ≤ l.length:=by unfold cntT;have:=List.length_filter_le id l;omega
theorem cntT_snoc (l:List Bool) (b:Bool):cntT (l ++ [b]) = cntT l + (if b = true then 1 else 0):=by
 unfold cntT;rw [List.filter_append];cases b <;> simp
theorem take_snoc {α:Type} (l:List α) (j:Nat) (h:j < l.length):l.take (j + 1) = l.take j ++ [l[j]]:=(List.take_succ_eq_append_getElem h)
theorem wcount_any (B:Nat) (a:Option Addr) (n c:Nat) (xs:List Bool) (w:World) (hx:BoolsIn B w a n xs) (hn:n ≤ 4096) :
  Calls Tryz.prog 186 #[.slice a n c] w fun e w'=>e = .returned (.int .i64 (cntT xs)) ∧ w' = w:=by
 obtain ⟨hlen,hx⟩:=hx
 go_enter Tryz.func186,Tryz.ntmps186
 go_wp2_with fail
 go_loop [3,8] (fun s i=>∃ k:Nat,k ≤ n ∧ i = .int .i64 k ∧ s = .int .i64 (cntT (xs.take k))) (fun _ i=>n - (intOf i).toNat)
 case atStart=>exact ⟨0,Nat.zero_le _,rfl,by simp [cntT]⟩
 case round =>
  obtain ⟨k,hk,rfl,rfl⟩:=hrel
  by_cases hlt:k < n
  ·obtain ⟨b,off,rfl,hb,hc⟩:=hx (by omega)
   have c:=hc k (by omega)
   have h0:=cntT_nonneg (xs.take k)
   have h1:=cntT_le (xs.take k)
   rw [List.length_take] at h1
   have h2:cntT (xs.take k) ≤ 4096:=by omega
   have ht:cntT (xs.take (k + 1)) = cntT (xs.take k) + (if xs[k] = true then 1 else 0):=by rw [take_snoc xs k (by omega),cntT_snoc]
   have Ht:=Lib.hid ht
   clear ht h1
   have Hx:=Lib.hid hx
   clear hx hc
   generalize xs[k] = x at *
   cases x
   ·go_wp2_with fail
    go_round
    case rel=>exact ⟨k + 1,by omega,by go_num,by rw [Ht.out];simp⟩
    case measure=>simp [intOf];omega
   ·go_wp2_with fail
    go_round
    case rel=>exact ⟨k + 1,by omega,by go_num,by rw [Ht.out];simp⟩
    case measure=>simp [intOf];omega
  ·have e:xs.take k = xs:=List.take_of_length_le (by omega)
   rw [e]
   go_wp2
   go_ret
   exact ⟨rfl,rfl⟩
structure WN (w:World) (z p q k f:Nat) (m:Int) (cf:Nat → Bool):Prop where
 c0:w.cell? ⟨z,0,none⟩ = some (.pointer (some ⟨p,0,none⟩))
 c1:w.cell? ⟨z,1,none⟩ = some (.int .i64 m)
 rb:RB w p q k f k cf
 zp:z ≠ p
 zq:z ≠ q
 m1:1 ≤ m
 mlk:m ≤ k
 k64:k ≤ 64
section
variable {w w':World} {z p q k f:Nat} {m:Int} {cf:Nat → Bool}
theorem WN.zlt (h:WN w z p q k f m cf):z < w.heap.size:=block_lt h.c0
theorem WN.keep {T:Nat → Prop} (h:WN w z p q k f m cf) (hf:Fr T w w') (hz:¬ T z) (hp:¬ T p) (hq:¬ T q):WN w' z p q k f m cf :=
 ⟨(hf.cell (p:=⟨z,0,none⟩) h.zlt hz).trans h.c0,(hf.cell (p:=⟨z,1,none⟩) h.zlt hz).trans h.c1,h.rb.keep hf hp hq,h.zp,h.zq,h.m1,h.mlk,h.k64⟩
theorem wpush_is (h:WN w z p q k f m cf) (x:Bool) {g:Nat} (hg:(f + 1) % k = g) :
  Calls Tryz.prog 139 #[.pointer (some ⟨z,0,none⟩),.bool x] w fun e w'=>e = .returned (.tuple #[]) ∧ WN w' z p q k g m (upd cf f x) ∧ Fr (fun j=>j = p ∨ j = q) w w':=by
 have c0:=h.c0
 have HR:=Lib.hid (rpush_is h.rb x hg)
 have H:=Lib.hid h
 clear h
 go_enter Tryz.func139,Tryz.ntmps139
 go_wp2_with (go_at_call 179;refine HR.out.mono ?_;rintro e w1 ⟨rfl,h1,f1⟩)
 go_end0
 have hz:¬ (z = p ∨ z = q):=by have:=H.out.zp;have:=H.out.zq;omega
 exact ⟨rfl,⟨(f1.cell (p:=⟨z,0,none⟩) H.out.zlt hz).trans H.out.c0,(f1.cell (p:=⟨z,1,none⟩) H.out.zlt hz).trans H.out.c1,h1,H.out.zp,H.out.zq,H.out.m1,H.out.mlk,H.out.k64⟩,f1⟩
theorem wlast_is (h:WN w z p q k f m cf) :
  Calls Tryz.prog 185 #[.pointer (some ⟨z,0,none⟩)] w fun e w'=>(∃ a c,e = .returned (.slice a k c) ∧ k ≤ c ∧ BoolsIn w'.heap.size w' a k (ringL k f k cf)) ∧ Below w.heap.size w w':=by
 have c0:=h.c0
 have HR:=Lib.hid (rall_any h.rb)
 clear h
 go_enter Tryz.func185,Tryz.ntmps185
 go_wp2_with (go_at_call 211;refine HR.out.mono ?_;rintro e w1 ⟨⟨a1,c1,rfl,hkc,h1⟩,b1⟩)
 go_ret
 exact ⟨⟨a1,c1,rfl,hkc,h1⟩,b1⟩
theorem wmet_is (h:WN w z p q k f m cf) :
  Calls Tryz.prog 180 #[.pointer (some ⟨z,0,none⟩)] w fun e w'=>e = .returned (.int .i64 (cntT (ringL k f k cf))) ∧ Below w.heap.size w w':=by
 have HR:=Lib.hid (wlast_is h)
 have hk:=h.k64
 clear h
 go_enter Tryz.func180,Tryz.ntmps180
 go_wp2_with (first | (go_at_call 185;refine HR.out.mono ?_;rintro e w1 ⟨⟨a1,c1,rfl,hkc,h1⟩,b1⟩) | (go_at_call 186;refine (wcount_any _ _ _ _ _ _ h1 (by omega)).mono ?_;rintro e w2 ⟨rfl,rfl⟩))
 go_ret
 exact ⟨rfl,b1⟩
theorem wfails_any (h:WN w z p q k f m cf) :
  Calls Tryz.prog 140 #[.pointer (some ⟨z,0,none⟩)] w fun e w'=>(∃ b,e = .returned (.bool b)) ∧ Below w.heap.size w w':=by
 have c1:=h.c1
 have hz:=h.zlt
 have HM:=Lib.hid (fun w' (hb:Below w.heap.size w w')=>wmet_is (h.keep (T:=fun _=>False) (Fr.of_below hb) (by simp) (by simp) (by simp)))
 have hb0:=Lib.hid (Below.refl w.heap.size w)
 clear h
 go_enter Tryz.func140,Tryz.ntmps140
 go_wp2_with fail
 go_region_law (go_simp;go_at_call 180;refine (HM.out _ (by first | exact hb0.out | exact bel_drewN hb0.out _ | exact bel_drew hb0.out)).mono ?_;rintro e w2 ⟨rfl,b2⟩;have d1:=(b2.cell (p:=⟨z,1,none⟩) (by first | exact hz | simpa using hz)).trans (by first | exact c1 | (go_simp;done) | simpa using c1))
 all_goals
  go_wp2_with fail
  go_ret
  exact ⟨⟨_,rfl⟩,by first | exact hb0.out.trans b2 | exact (bel_drew hb0.out).trans b2 | exact (bel_drewN hb0.out _).trans b2⟩
theorem boolsDrop {B:Nat} {b off n:Nat} {xs:List Bool} (h:BoolsIn B w (some ⟨b,off,none⟩) n xs) (j:Nat) (hj:j ≤ n):BoolsIn B w (some ⟨b,off + j,none⟩) (n - j) (xs.drop j):=by
 obtain ⟨h1,h2⟩:=h
 refine ⟨by rw [List.length_drop,h1],fun h0=>?_⟩
 obtain ⟨b',off',e,hlt,hc⟩:=h2 (by omega)
 simp only [Option.some.injEq,Addr.mk.injEq,and_true] at e
 obtain ⟨rfl,rfl⟩:=e
 refine ⟨b,off + j,rfl,hlt,fun i hi=>?_⟩
 rw [List.length_drop] at hi
 have:=hc (j + i) (by omega)
 rw [List.getElem_drop,Nat.add_assoc]
 exact this
theorem wdist_is (h:WN w z p q k f m cf) :
  Calls Tryz.prog 146 #[.pointer (some ⟨z,0,none⟩)] w fun e w'=>(∃ d:Int,e = .returned (.int .i64 d) ∧ (d ≤ 1 ∨ m ≤ cntT ((ringL k f k cf).drop 1))) ∧ Below w.heap.size w w':=by
 have HR:=Lib.hid (wlast_is h)
 have c1:=h.c1
 have hk:=h.k64
 have hk1:=h.rb.k1
 have hz:=h.zlt
 have hm1:=h.m1
 have hll:(ringL k f k cf).length = k:=ringL_len _ _ _ _
 clear h
 generalize ringL k f k cf = xs at *
 generalize hY:cntT (xs.drop 1) = Y
 have HY:=Lib.hid hY
 clear hY
 go_enter Tryz.func146,Tryz.ntmps146
 go_wp2_with (go_at_call 185;refine HR.out.mono ?_;rintro e w1 ⟨⟨a1,c2,rfl,hkc2,h1⟩,b1⟩)
 have d1:=(b1.cell (p:=⟨z,1,none⟩) hz).trans c1
 obtain ⟨b,off,rfl,hbl,hcc⟩:=h1.2 (by omega)
 clear hcc
 have HB:=Lib.hid b1
 clear b1 HR
 have hb0:Below w1.heap.size w1 w1:=Below.refl _ _
 have hz1:z < w1.heap.size:=Nat.lt_of_lt_of_le hz HB.out.size
 go_loopw [4] (fun i wx=>∃ j:Nat,j ≤ k ∧ i = .int .i64 j ∧ (∀ x,x < j → m ≤ cntT (xs.drop x)) ∧ Below w1.heap.size w1 wx) (fun i _=>k - (intOf i).toNat)
 case atStart=>exact ⟨0,Nat.zero_le _,rfl,fun x hx=>by omega,hb0⟩
 case round =>
  obtain ⟨j,hj,rfl,hall,hb⟩:=hrel
  have hD:=(boolsDrop h1 j hj).keep hb
  have e1:=(hb.cell (p:=⟨z,1,none⟩) hz1).trans d1
  have Hall:=Lib.hid hall
  have Hb:=Lib.hid hb
  clear hall hb hb0 d1
  have hD':Hid (∀ y,BoolsIn w1.heap.size (wr.drewN y) (if c2 = j then some ⟨b,off,none⟩ else some ⟨b,off + j,none⟩) (k - j) (xs.drop j)):=fun y =>
   ⟨hD.1,fun h0=>by
    obtain ⟨b',o',e,hlt,hc⟩:=hD.2 h0
    exact ⟨b',o',by rw [if_neg (by omega)];exact e,hlt,fun i hi=>by rw [World.cell?_drewN];exact hc i hi⟩⟩
  clear hD
  have hjI:(j:Int) ≤ (k:Int):=by omega
  have hj0:(0:Int) ≤ (j:Int):=by omega
  have hkc:(k:Int) ≤ 64:=by omega
  by_cases hge:m ≤ cntT (xs.drop j)
  ·have hgd:decide (cntT (xs.drop j) ≥ m) = true:=decide_eq_true hge
   have hjk:j < k:=by
    rcases Nat.lt_or_ge j k with h | h
    ·exact h
    ·rw [List.drop_of_length_le (by omega)] at hge
     simp [cntT] at hge;omega
   have hjk2:(j:Int) < 64:=by omega
   have hg2:Hid (∀ x,x < j + 1 → m ≤ cntT (xs.drop x)):=fun x hx=>by
    by_cases h:x = j
    ·rw [h];exact hge
    ·exact Hall.out x (by omega)
   go_wp2_with fail
   go_quiet ((go_at_call 186;refine Calls.quiet_of_same (wcount_any _ _ _ _ _ _ (hD'.out _) (by omega))))
   all_goals (go_wp2_with fail)
   all_goals
    go_roundw
    case rel=>exact ⟨j + 1,by omega,by simp,hg2.out,bel_drewN Hb.out _⟩
    case measure=>simp [intOf];omega
  ·have hgd:decide (cntT (xs.drop j) ≥ m) = false:=decide_eq_false hge
   go_wp2_with fail
   go_quiet ((go_at_call 186;refine Calls.quiet_of_same (wcount_any _ _ _ _ _ _ (hD'.out _) (by omega))))
   all_goals (go_wp2_with fail)
   all_goals
    go_ret
    refine ⟨⟨_,rfl,?_⟩,HB.out.trans ((bel_drewN Hb.out _).mono HB.out.size)⟩
    by_cases h:j ≤ 1
    ·exact .inl (by omega)
    ·exact .inr (by rw [← HY.out];exact Hall.out 1 (by omega))
theorem RB.congr {p q k f n:Nat} {cf cg:Nat → Bool} (h:RB w p q k f n cf) (e:∀ i,i < k → cf i = cg i):RB w p q k f n cg :=
 { h with el:=fun i hi=>by rw [← e i hi];exact h.el i hi }
theorem wnew_good (m k:Nat) (w:World) (h1:1 ≤ m) (h2:m ≤ k) (h3:k ≤ 64) :
  Calls Tryz.prog 55 #[.int .i64 m,.int .i64 k] w fun e w'=>(∃ z p q cf,e = .returned (.tuple #[.pointer (some ⟨z,0,none⟩),.int .i64 0]) ∧ WN w' z p q k 0 m cf ∧ ringL k 0 k cf = List.replicate k true ∧ w.heap.size ≤ z ∧ w.heap.size ≤ p ∧ w.heap.size ≤ q ∧ z < w'.heap.size) ∧ Below w.heap.size w w':=by
 have HR:=Lib.hid (rnew_good k w (by omega) (by omega))
 have hmI:(1:Int) ≤ (m:Int):=by omega
 have hkI:(m:Int) ≤ (k:Int):=by omega
 have hk64:(k:Int) ≤ 64:=by omega
 have hd1:decide ((m:Int) < 1) = false:=decide_eq_false (by omega)
 have hd2:decide ((m:Int) > (k:Int)) = false:=decide_eq_false (by omega)
 have hd3:decide ((k:Int) > 64) = false:=decide_eq_false (by omega)
 go_enter Tryz.func55,Tryz.ntmps55
 go_wp2_with (go_at_call 91;refine HR.out.mono ?_;rintro e w1 ⟨⟨p,q,rfl,hr,hp,hq⟩,hb⟩)
 clear HR
 go_loopw [28] (fun i wx=>∃ j:Nat,j ≤ k ∧ i = .int .i64 j ∧ Hid (RB wx p q k 0 j (fun i=>decide (i < j))) ∧ Below w.heap.size w wx) (fun i _=>k - (intOf i).toNat)
 case atStart=>exact ⟨0,Nat.zero_le _,rfl,(show RB _ _ _ _ _ _ _ from hr.congr (fun i hi=>by simp)),hb⟩
 case round =>
  clear hr hb
  obtain ⟨j,hj,rfl,HO,hb⟩:=hrel
  by_cases hlt:j < k
  ·have hltI:(j:Int) < (k:Int):=by omega
   have hd4:decide ((j:Int) < (k:Int)) = true:=decide_eq_true hltI
   have HP:=Lib.hid (rput_is HO.out hlt true (g:=j) (by rw [Nat.zero_add];exact Nat.mod_eq_of_lt hlt))
   have Hb:=Lib.hid hb
   clear hb
   go_wp2_with (go_at_call 92;refine HP.out.mono ?_;rintro e w4 ⟨rfl,h4,f4⟩)
   have h5:=Lib.hid (h4.congr (cg:=fun i=>decide (i < j + 1)) (fun i hi=>by
    by_cases e:i = j
    ·subst e;rw [upd_self];simp
    ·rw [upd_ne _ _ e];simp;omega))
   have hb5:=Lib.hid (Hb.out.trans (f4.below (fun i _ h=>by rcases h with rfl | rfl;exact hp;exact hq) Hb.out.size))
   clear h4 f4
   go_roundw
   case rel=>exact ⟨j + 1,by omega,by simp,h5.out,hb5.out⟩
   case measure=>simp [intOf];omega
  ·have hje:j = k:=by omega
   subst hje
   have hd4:decide ((j:Int) < (j:Int)) = false:=decide_eq_false (by omega)
   have Hb:=Lib.hid hb
   clear hb
   go_wp2_with fail
   go_ret2
   have hF:Fr (fun _=>False) wr (wr.alloc (.cells #[.pointer (some ⟨p,0,none⟩),.int .i64 m,.int .i64 j] 198)):=(Fr.refl _ wr).alloc _
   have hx:=HO.out.keep hF (by simp) (by simp)
   have hpl:=HO.out.plt
   have hql:=HO.out.qlt
   refine ⟨⟨wr.heap.size,p,q,_,rfl,⟨cell_newb _ _ _ _ 0 _ rfl rfl,cell_newb _ _ _ _ 1 _ rfl rfl,hx,by omega,by omega,hmI,hkI,h3⟩,?_,Hb.out.size,hp,hq,by simp⟩,Hb.out.alloc Hb.out.size _⟩
   apply List.ext_getElem
   ·rw [ringL_len,List.length_replicate]
   ·intro i h1 h2
    rw [ringL_len] at h1
    simp only [ringL,List.getElem_map,List.getElem_range,List.getElem_replicate]
    rw [Nat.zero_add,Nat.mod_eq_of_lt h1]
    simpa using h1
end
end
end Go.Proofs.YtnoahekcemfmcaaGreatDoor
