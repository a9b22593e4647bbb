/- A part of the walk: Dl Pu1. -/
import Derived.Test.YtnoahekcemfmcaaGreatDoorR03
import Derived.RegionTactic
import Derived.IntWalk
namespace Go.Proofs.YtnoahekcemfmcaaGreatDoor
set_option linter.unusedVariables false
set_option linter.unusedSimpArgs false
set_option maxHeartbeats 80000000
set_option maxRecDepth 100000
section
open Go.RowKit
def IntsIn (B:Nat) (w:World) (a:Option Addr) (n:Nat) (xs:List Int):Prop :=
 xs.length = n ∧ (0 < n → ∃ b off,a = some ⟨b,off,none⟩ ∧ b < B ∧ ∀ j (h:j < xs.length),w.cell? ⟨b,off + j,none⟩ = some (.int .i64 xs[j]))
theorem IntsIn.keep {w w':World} {a:Option Addr} {n B:Nat} {xs:List Int} (h:IntsIn B w a n xs) (hb:Below B w w'):IntsIn B w' a n xs :=
 ⟨h.1,fun hn=>by
  obtain ⟨b,off,e,hlt,hc⟩:=h.2 hn
  exact ⟨b,off,e,hlt,fun j hj=>(hb.cell (p:=⟨b,off + j,none⟩) hlt).trans (hc j hj)⟩⟩
structure Gate where
 apart:Int
 opn:Int
 count:Int
deriving Inhabited,DecidableEq
def Gate.cells (g:Gate):List Value:=[.int .i64 g.apart,.int .i64 g.opn,.int .i64 g.count]
structure GuardAt (w:World) (p q cap N:Nat) (gs:List Gate):Prop where
 fld:w.cell? ⟨p,0,none⟩ = some (.slice (some ⟨q,0,none⟩) gs.length cap)
 ffld:w.frozen? ⟨p,0,none⟩ = false
 len:gs.length ≤ 16
 capl:gs.length ≤ cap
 ap:∀ i (h:i < gs.length),w.cell? ⟨q,i * 3,none⟩ = some (.int .i64 gs[i].apart)
 opn:∀ i (h:i < gs.length),w.cell? ⟨q,i * 3 + 1,none⟩ = some (.int .i64 gs[i].opn)
 ct:∀ i (h:i < gs.length),w.cell? ⟨q,i * 3 + 2,none⟩ = some (.int .i64 gs[i].count)
 fr:∀ o,w.frozen? ⟨q,o,none⟩ = false
 ne:p ≠ q
 p1:p < w.heap.size
 q1:q < w.heap.size
 rng:∀ g ∈ gs,1 ≤ g.apart ∧ g.apart ≤ 1048576 ∧ 0 ≤ g.opn ∧ g.opn ≤ 1099512676352 ∧ 0 ≤ g.count ∧ g.count ≤ N
def goStep (gs:List Gate) (i t:Int):Int × List Gate :=
 if i < 0 ∨ gs.length ≤ i ∨ t < 0 ∨ 1099511627776 < t then (1,gs)
 else if t < (gs.getD i.toNat default).opn then (6,gs)
 else (0,gs.set i.toNat { (gs.getD i.toNat default) with opn:=t + (gs.getD i.toNat default).apart,count:=(gs.getD i.toNat default).count + 1 })
def countF (gs:List Gate) (i:Int):Int:=if 0 ≤ i ∧ i < gs.length then (gs.getD i.toNat default).count else 0
theorem GuardAt.keep {w w':World} {p q cap N:Nat} {gs:List Gate} {S:Nat → Prop} (h:GuardAt w p q cap N gs) (hf:Fr S w w') (hp:¬ S p) (hq:¬ S q):GuardAt w' p q cap N gs where
 fld:=by rw [hf.cell (p:=⟨p,0,none⟩) h.p1 hp];exact h.fld
 ffld:=by rw [hf.frozen (p:=⟨p,0,none⟩) h.p1 hp];exact h.ffld
 len:=h.len
 capl:=h.capl
 ap:=fun i hi=>by rw [hf.cell (p:=⟨q,i * 3,none⟩) h.q1 hq];exact h.ap i hi
 opn:=fun i hi=>by rw [hf.cell (p:=⟨q,i * 3 + 1,none⟩) h.q1 hq];exact h.opn i hi
 ct:=fun i hi=>by rw [hf.cell (p:=⟨q,i * 3 + 2,none⟩) h.q1 hq];exact h.ct i hi
 fr:=fun o=>by rw [hf.frozen (p:=⟨q,o,none⟩) h.q1 hq];exact h.fr o
 ne:=h.ne
 p1:=Nat.lt_of_lt_of_le h.p1 hf.size
 q1:=Nat.lt_of_lt_of_le h.q1 hf.size
 rng:=h.rng
theorem GuardAt.more {w:World} {p q cap N M:Nat} {gs:List Gate} (h:GuardAt w p q cap N gs) (hN:N ≤ M):GuardAt w p q cap M gs :=
 { h with rng:=fun g hg=>by have:=h.rng g hg;omega }
theorem GuardAt.put {w:World} {p q cap N:Nat} {gs:List Gate} (h:GuardAt w p q cap N gs) (i:Nat) (hi:i < gs.length) (o c:Int)
  (ho:0 ≤ o) (ho':o ≤ 1099512676352) (hc:0 ≤ c) (hc':c ≤ (N:Int) + 1) :
  GuardAt ((w.setCell ⟨q,i * 3 + 1,none⟩ (.int .i64 o)).setCell ⟨q,i * 3 + 2,none⟩ (.int .i64 c)) p q cap (N + 1) (gs.set i { gs[i] with opn:=o,count:=c }):=by
 have e:∀ {a b:Nat},a ≠ b → (⟨q,a,none⟩:Addr) ≠ ⟨q,b,none⟩:=fun hab e=>hab (by cases e;rfl)
 have ep:∀ {a b:Nat},(⟨q,a,none⟩:Addr) ≠ ⟨p,b,none⟩:=fun e=>h.ne (by simp at e;exact e.1.symm)
 refine ⟨?_,?_,?_,?_,?_,?_,?_,?_,h.ne,?_,?_,?_⟩
 ·rw [World.cell?_setCell_other _ _ _ _ ep,World.cell?_setCell_other _ _ _ _ ep];simpa using h.fld
 ·rw [World.frozen?_setCell,World.frozen?_setCell];exact h.ffld
 ·simpa using h.len
 ·simpa using h.capl
 ·intro j hj
  have hj':j < gs.length:=by simpa using hj
  rw [World.cell?_setCell_other _ _ _ _ (e (by omega)),World.cell?_setCell_other _ _ _ _ (e (by omega)),h.ap j hj',List.getElem_set]
  split
  ·rename_i hh;subst hh;rfl
  ·rfl
 ·intro j hj
  have hj':j < gs.length:=by simpa using hj
  rw [World.cell?_setCell_other _ _ _ _ (e (by omega)),List.getElem_set]
  split
  ·rename_i hh;subst hh
   exact World.cell?_setCell_same _ _ _ (h.opn i hi)
  ·rw [World.cell?_setCell_other _ _ _ _ (e (by omega)),h.opn j hj']
 ·intro j hj
  have hj':j < gs.length:=by simpa using hj
  rw [List.getElem_set]
  split
  ·rename_i hh;subst hh
   exact World.cell?_setCell_same _ _ _ (by rw [World.cell?_setCell_other _ _ _ _ (e (by omega))];exact h.ct i hi)
  ·rw [World.cell?_setCell_other _ _ _ _ (e (by omega)),World.cell?_setCell_other _ _ _ _ (e (by omega)),h.ct j hj']
 ·intro j;rw [World.frozen?_setCell,World.frozen?_setCell];exact h.fr j
 ·simpa [World.setCell] using h.p1
 ·simpa [World.setCell] using h.q1
 ·intro g hg
  rcases List.mem_or_eq_of_mem_set hg with hg | rfl
  ·have:=h.rng g hg;omega
  ·have:=h.rng gs[i] (List.getElem_mem hi)
   simp only;omega
def newGates (xs:List Int):List Gate:=xs.map fun x=>⟨x,0,0⟩
theorem GuardAt.made {w:World} {p N base:Nat} {gs:List Gate} {v:Value} (hv:w.cell? ⟨p,0,none⟩ = some v) (hf:w.frozen? ⟨p,0,none⟩ = false) (hp:p < w.heap.size) (hb:p < base)
  (ho:w.ownsRow base 146 3 v gs.length (gs.flatMap Gate.cells)) (h1:1 ≤ gs.length) (h16:gs.length ≤ 16)
  (hr:∀ g ∈ gs,1 ≤ g.apart ∧ g.apart ≤ 1048576 ∧ 0 ≤ g.opn ∧ g.opn ≤ 1099512676352 ∧ 0 ≤ g.count ∧ g.count ≤ N) :
  ∃ q cap,GuardAt w p q cap N gs ∧ base ≤ q:=by
 obtain ⟨g,cap,rfl,hbg,hg,hc,hcell,hfz⟩:=ownsRow_cells ho h1
 have hat:=fun i (hi:i < gs.length) j (hj:j < 3)=>flatMap_at Gate.cells 3 (fun _=>rfl) gs i j hi hj
 exact ⟨g,cap,⟨hv,hf,h16,hc,fun i hi=>hcell (i * 3) _ (hat i hi 0 (by omega)),fun i hi=>hcell (i * 3 + 1) _ (hat i hi 1 (by omega)),fun i hi=>hcell (i * 3 + 2) _ (hat i hi 2 (by omega)),hfz,by omega,hp,hg,hr⟩,hbg⟩
theorem has_any (p q cap N:Nat) (gs:List Gate) (i:Int) (w:World) (hg:GuardAt w p q cap N gs) :
  Calls Tryz.prog 96 #[.pointer (some ⟨p,0,none⟩),.int .i64 i] w fun e w'=>e = .returned (.bool (decide (0 ≤ i ∧ i < gs.length))) ∧ w = w':=by
 have hf:=hg.fld
 have hl:=hg.len
 clear hg
 generalize gs.length = n at hf hl ⊢
 go_enter Tryz.func96,Tryz.ntmps96
 go_wp2
 all_goals (go_ret;exact ⟨ret_bool (by simp;omega),rfl⟩)
theorem time_any (i:Int) (w:World) :
  Calls Tryz.prog 141 #[.int .i64 i] w fun e w'=>e = .returned (.bool (decide (0 ≤ i ∧ i ≤ 4611686018427387904))) ∧ w = w':=by
 go_enter Tryz.func141,Tryz.ntmps141
 go_wp2
 all_goals (go_ret;exact ⟨ret_bool (by simp;omega),rfl⟩)
theorem add_fits (a b:Int) (w:World) (ha:0 ≤ a) (ha':a ≤ 1099511627776) (hb:0 ≤ b) (hb':b ≤ 1048576) :
  Calls Tryz.prog 97 #[.int .i64 a,.int .i64 b] w fun e w'=>e = .returned (.tuple #[.int .i64 (a + b),.bool true]) ∧ w = w':=by
 go_enter Tryz.func97,Tryz.ntmps97
 go_wp2_with (go_at_call 141;refine (time_any _ _).mono ?_;rintro e w' ⟨rfl,rfl⟩)
 all_goals go_ret2
 all_goals exact ⟨rfl,rfl⟩
theorem go_any (p q cap N:Nat) (gs:List Gate) (i t:Int) (w:World) (hg:GuardAt w p q cap N gs) (hN:N ≤ 1000000) :
  Calls Tryz.prog 63 #[.pointer (some ⟨p,0,none⟩),.int .i64 i,.int .i64 t] w fun e w' =>
   e = .returned (.int .i64 (goStep gs i t).1) ∧ GuardAt w' p q cap (N + 1) (goStep gs i t).2 ∧ Fr (· = q) w w':=by
 by_cases h1:i < 0 ∨ gs.length ≤ i ∨ t < 0 ∨ 1099511627776 < t
 ·rw [show goStep gs i t = (1,gs) from by unfold goStep;rw [if_pos h1]]
  have hh:decide (0 ≤ i ∧ i < gs.length) = false ∨ decide (0 ≤ i ∧ i < gs.length) = true:=by cases decide (0 ≤ i ∧ i < gs.length) <;> simp
  have K:=hg.more (M:=N + 1) (by omega)
  have hl:=hg.len
  go_enter Tryz.func63,Tryz.ntmps63
  go_wp2_with (go_at_call 96;refine (has_any p q cap N gs i _ hg).mono ?_;rintro e w' ⟨rfl,rfl⟩)
  all_goals (go_ret;exact ⟨rfl,K,Fr.refl _ _⟩)
 ·obtain ⟨k,rfl⟩:∃ k:Nat,i = (k:Int):=⟨i.toNat,by omega⟩
  have hk:k < gs.length:=by omega
  have ht:0 ≤ t:=by omega
  have ht':t ≤ 1099511627776:=by omega
  have hkI:(k:Int) < (gs.length:Int):=by omega
  have hl:=hg.len
  have hr:=hg.rng gs[k] (List.getElem_mem hk)
  have c0:=hg.ap k hk
  have c1:=hg.opn k hk
  have c2:=hg.ct k hk
  have f1:=hg.fr (k * 3 + 1)
  have f2:=hg.fr (k * 3 + 2)
  have hf:=hg.fld
  have P:=Lib.hid (hg.put k hk)
  have K:=hg.more (M:=N + 1) (by omega)
  have E:Hid (goStep gs k t = if t < gs[k].opn then (6,gs) else (0,gs.set k { gs[k] with opn:=t + gs[k].apart,count:=gs[k].count + 1 })):=by
   show _ = _
   unfold goStep
   rw [if_neg h1]
   simp [List.getD_eq_getElem?_getD,hk]
  generalize hap:gs[k].apart = a at *
  generalize hop:gs[k].opn = o at *
  generalize hct:gs[k].count = c at *
  have HH:=Lib.hid hap;clear hap
  have HH2:=Lib.hid hop;clear hop
  have HH3:=Lib.hid hct;clear hct
  clear h1
  by_cases he:t < o
  ·go_enter Tryz.func63,Tryz.ntmps63
   go_wp2_with (go_at_call 96;refine (has_any p q cap N gs k _ hg).mono ?_;rintro e w' ⟨rfl,rfl⟩)
   go_ret
   rw [E.out,if_pos he]
   exact ⟨rfl,K,Fr.refl _ _⟩
  ·have hoo:o ≤ t:=by omega
   go_enter Tryz.func63,Tryz.ntmps63
   go_wp2_with (first | (go_at_call 96;refine (has_any p q cap N gs k _ hg).mono ?_;rintro e w' ⟨rfl,rfl⟩) | (go_at_call 97;refine (add_fits _ _ _ (by omega) (by omega) (by omega) (by omega)).mono ?_;rintro e w' ⟨rfl,rfl⟩))
   go_ret
   rw [E.out,if_neg (by omega)]
   exact ⟨rfl,(HH3.out ▸ P.out (t + a) (c + 1) (by omega) (by omega) (by omega) (by omega)),((Fr.refl (· = q) _).setCell (p:=⟨q,_,none⟩) rfl _).setCell (p:=⟨q,_,none⟩) rfl _⟩
theorem count_any (p q cap N:Nat) (gs:List Gate) (i:Int) (w:World) (hg:GuardAt w p q cap N gs) :
  Calls Tryz.prog 62 #[.pointer (some ⟨p,0,none⟩),.int .i64 i] w fun e w'=>e = .returned (.int .i64 (countF gs i)) ∧ w = w':=by
 unfold countF
 by_cases h1:0 ≤ i ∧ i < gs.length
 ·rw [if_pos h1]
  obtain ⟨k,rfl⟩:∃ k:Nat,i = (k:Int):=⟨i.toNat,by omega⟩
  have hk:k < gs.length:=by omega
  have hkI:(k:Int) < (gs.length:Int):=by omega
  have hl:=hg.len
  have c1:=hg.ct k hk
  have hf:=hg.fld
  have e:(gs.getD (k:Int).toNat default).count = gs[k].count:=by simp [List.getD_eq_getElem?_getD,hk]
  rw [e]
  generalize gs[k].count = o at *
  clear e
  go_enter Tryz.func62,Tryz.ntmps62
  go_wp2_with (go_at_call 96;refine (has_any p q cap N gs k _ hg).mono ?_;rintro e w' ⟨rfl,rfl⟩)
  go_ret
  exact ⟨rfl,rfl⟩
 ·rw [if_neg h1]
  go_enter Tryz.func62,Tryz.ntmps62
  go_wp2_with (go_at_call 96;refine (has_any p q cap N gs i _ hg).mono ?_;rintro e w' ⟨rfl,rfl⟩)
  go_ret
  exact ⟨rfl,rfl⟩
def wrongN (n:Int):Bool:=decide (n < 1 ∨ 1048576 < n)
theorem wrong_any (n:Int) (w:World) :
  Calls Tryz.prog 56 #[.int .i64 n] w fun e w'=>e = .returned (.bool (wrongN n)) ∧ w = w':=by
 unfold wrongN
 go_enter Tryz.func56,Tryz.ntmps56
 go_wp2
 all_goals (go_ret;exact ⟨ret_bool (by simp <;> omega),rfl⟩)
theorem indexFunc_any (B:Nat) (a:Option Addr) (n c:Nat) (xs:List Int) (w:World) (hx:IntsIn B w a n xs) (hn:n ≤ 9223372036854775807) :
  Calls Tryz.prog 93 #[.slice a n c,.func (.func 56) #[] #[]] w fun e w'=>(∃ r:Int,e = .returned (.int .i64 r) ∧ (decide (0 ≤ r) = xs.any wrongN)) ∧ w = w':=by
 obtain ⟨hlen,hx⟩:=hx
 go_enter Tryz.func93,Tryz.ntmps93
 go_wp2_with fail
 go_loop [8] (fun i=>∃ k:Nat,k ≤ n ∧ i = .int .i64 k ∧ (xs.take k).any wrongN = false) (fun i=>n - (intOf i).toNat)
 case atStart=>exact ⟨0,Nat.zero_le _,rfl,by simp⟩
 case round =>
  obtain ⟨k,hk,rfl,hall⟩:=hrel
  have Hall:=Lib.hid hall;clear hall
  by_cases hlt:k < n
  ·obtain ⟨b,off,rfl,hb,hc⟩:=hx (by omega)
   have c:=hc k (by omega)
   have ht:(xs.take (k + 1)).any wrongN = ((xs.take k).any wrongN || wrongN xs[k]):=by
    rw [List.take_succ_eq_append_getElem (by omega),List.any_append];simp
   rw [Hall.out] at ht
   have Ht:=Lib.hid ht;clear ht
   have hm:xs[k] ∈ xs:=List.getElem_mem _
   generalize xs[k] = x at *
   have Hx:=Lib.hid hx
   clear hx hc
   cases hw:wrongN x
   ·rw [hw] at Ht
    have wa:=fun w=>wrong_any x w
    rw [hw] at wa
    have Hw:=Lib.hid hw;clear hw
    go_wp2_with (go_at_call 56;refine (wa _).mono ?_;rintro e w' ⟨rfl,rfl⟩)
    go_round
    case rel=>exact ⟨k + 1,by omega,by go_num,by rw [Ht.out];rfl⟩
    case measure=>simp [intOf];omega
   ·have wa:=fun w=>wrong_any x w
    rw [hw] at wa
    have Hw:=Lib.hid hw;clear hw
    go_wp2_with (go_at_call 56;refine (wa _).mono ?_;rintro e w' ⟨rfl,rfl⟩)
    go_ret
    exact ⟨⟨_,rfl,by rw [decide_eq_true (by omega)];exact (List.any_eq_true.2 ⟨x,hm,Hw.out⟩).symm⟩,rfl⟩
  ·go_wp2
   go_ret
   exact ⟨⟨_,rfl,by have:=Hall.out;rw [List.take_of_length_le (by omega)] at this;rw [this];rfl⟩,rfl⟩
theorem containsFunc_any (B:Nat) (a:Option Addr) (n c:Nat) (xs:List Int) (w:World) (hx:IntsIn B w a n xs) (hn:n ≤ 9223372036854775807) :
  Calls Tryz.prog 57 #[.slice a n c,.func (.func 56) #[] #[]] w fun e w'=>e = .returned (.bool (xs.any wrongN)) ∧ w = w':=by
 go_enter Tryz.func57,Tryz.ntmps57
 go_wp2_with (go_at_call 93;refine (indexFunc_any B a n c xs _ hx hn).mono ?_;rintro e w' ⟨⟨r,rfl,hr⟩,rfl⟩;have Hr:=Lib.hid hr;clear hr)
 all_goals (go_ret;exact ⟨ret_bool (by rw [← Hr.out]),rfl⟩)
theorem Tryz.info146:(Tryz.prog.info? 146).map (fun i=>(i.zero,i.size,i.bytes)) = some (some (.agg #[.int .i64 0,.int .i64 0,.int .i64 0]),3,24):=by kernel_rfl
def badNew (n:Nat) (xs:List Int):Bool:=decide (n < 1 ∨ 16 < n) || xs.any wrongN
theorem new_good (B:Nat) (a:Option Addr) (n c:Nat) (xs:List Int) (w:World) (hx:IntsIn B w a n xs) (hn:n ≤ 9223372036854775807) (hb:badNew n xs = false) (hB:B ≤ w.heap.size) :
  Calls Tryz.prog 36 #[.slice a n c] w fun e w'=>(∃ p q cap,e = .returned (.tuple #[.pointer (some ⟨p,0,none⟩),.int .i64 0]) ∧ GuardAt w' p q cap 0 (newGates xs) ∧ w.heap.size ≤ p ∧ w.heap.size ≤ q) ∧ Below w.heap.size w w':=by
 have hc:=fun w hx=>containsFunc_any B a n c xs w hx hn
 obtain ⟨h1,hany⟩:¬ (n < 1 ∨ 16 < n) ∧ xs.any wrongN = false:=by simpa [badNew] using hb
 rw [hany] at hc
 clear hb
 have Hany:=Lib.hid hany;clear hany
 have h2:1 ≤ n:=by omega
 have h3:n ≤ 16:=by omega
 go_enter Tryz.func36,Tryz.ntmps36
 go_wp2_with (go_at_call 57;refine (hc _ hx).mono ?_;rintro e w' ⟨rfl,rfl⟩)
 clear hc
 obtain ⟨i0,hi,hz0,hz1,hz2⟩:=info_parts Tryz.info146
 go_loopw [25] (fun i wr=>∃ (k:Nat) (v:Value),k ≤ n ∧ i = .int .i64 k ∧ wr.cell? ⟨w.heap.size,0,none⟩ = some v ∧ wr.frozen? ⟨w.heap.size,0,none⟩ = false ∧ wr.ownsRow (w.heap.size + 1) 146 3 v k ((newGates (xs.take k)).flatMap Gate.cells) ∧ w.heap.size + 1 ≤ wr.heap.size ∧ Below w.heap.size w wr)
  (fun i _=>n - (intOf i).toNat)
 case atStart =>
  refine ⟨0,.slice none 0 0,Nat.zero_le _,rfl,by simp,by simp,World.ownsRow_nil _ _ _ _,by simp,(Below.refl _ _).alloc (Nat.le_refl _) _⟩
 case round =>
  obtain ⟨k,v,hk,rfl,hv,hf,hown,hsz,hbel⟩:=hrel
  by_cases hlt:k < n
  ·obtain ⟨b,off,rfl,hbB,hcc⟩:=(hx.keep (hbel.mono hB)).2 (by omega)
   have hxl:=hx.1
   have c:=hcc k (by omega)
   have ht:(newGates (xs.take (k + 1))).flatMap Gate.cells = (newGates (xs.take k)).flatMap Gate.cells ++ [.int .i64 xs[k],.int .i64 0,.int .i64 0]:=by
    rw [List.take_succ_eq_append_getElem (by omega)]
    simp only [newGates,List.map_append,List.flatMap_append]
    rfl
   have Ht:=Lib.hid ht;clear ht
   generalize xs[k] = x at *
   have Hx:=Lib.hid hx
   clear hx hcc
   have hz3:wr.heap.size < (wr.alloc (.cells #[.int .i64 x,.int .i64 0,.int .i64 0] 146)).heap.size:=by simp
   go_wp2_with (at_builtin;refine wpList_append_own _ rfl _ _ 142 rfl (w.heap.size + 1) 146 i0 (.agg #[.int .i64 0,.int .i64 0,.int .i64 0]) 3 24 Tryz.underlying142 hi hz0 hz1 hz2 rfl (by decide) _ _ _ rfl (hown.alloc _) ⟨wr.heap.size,0,none⟩ 1 1 [.int .i64 x,.int .i64 0,.int .i64 0] rfl rfl ?c1 ?c2 ?c3 ?c4 ?c5 ?_)
   case c1 =>
    exact fun j u hu=>cell_new _ _ _ j u hu
   case c2=>intro u hu;simp at hu;rcases hu with rfl | rfl <;> rfl
   case c3=>unfold maxLen;omega
   case c4=>omega
   case c5=>simp;omega
   intro v' w1 hown1 hgrow _
   obtain ⟨g1,cap1,rfl,_⟩:=ownsRow_cells hown1 (by omega)
   have hbel1:Below (w.heap.size + 1) wr w1:=(((Below.refl _ _).alloc hsz _).grown hgrow (by simp;omega) (fun j e=>ownsRow_block hown j e))
   have hv1:w1.cell? ⟨w.heap.size,0,none⟩ = some v:=by rw [hbel1.cell (by simp)];exact hv
   have hf1:w1.frozen? ⟨w.heap.size,0,none⟩ = false:=by rw [hbel1.frozen (by simp)];exact hf
   clear hv hf hown hgrow hz3
   rw [← Ht.out] at hown1
   go_wp2_with fail
   go_roundw
   case rel=>exact ⟨k + 1,_,by omega,by go_num,World.cell?_setCell_same _ _ _ hv1,by rw [World.frozen?_setCell];exact hf1,ownsRow_setCell_below hown1 (by simp) _,by have:=hbel1.size;simp [World.setCell];omega,(hbel.trans (hbel1.mono (by omega))).setCell (by simp) _⟩
   case measure=>simp [intOf];omega
  ·go_wp2_with fail
   obtain rfl:k = n:=by omega
   have hxl:=hx.1
   rw [List.take_of_length_le (by omega)] at hown
   have hN:(newGates xs).length = k:=by simp [newGates,hxl]
   have hr:∀ g ∈ newGates xs,1 ≤ g.apart ∧ g.apart ≤ 1048576 ∧ 0 ≤ g.opn ∧ g.opn ≤ 1099512676352 ∧ 0 ≤ g.count ∧ g.count ≤ (0:Nat):=by
    intro g hg
    simp only [newGates,List.mem_map] at hg
    obtain ⟨x,hx,rfl⟩:=hg
    have:=List.any_eq_false.1 Hany.out x hx
    simp [wrongN] at this
    simp;omega
   obtain ⟨q,cap,hG,hq⟩:=GuardAt.made hv hf (by omega) (by omega) (hN.symm ▸ hown) (by omega) (by omega) hr
   go_ret2
   exact ⟨⟨_,q,cap,rfl,hG,by omega,by omega⟩,hbel⟩
theorem go_is {p q cap N:Nat} {gs gs':List Gate} {i t r:Int} {w:World} (hE:goStep gs i t = (r,gs')) (hg:GuardAt w p q cap N gs) (hN:N ≤ 1000000) :
  Calls Tryz.prog 63 #[.pointer (some ⟨p,0,none⟩),.int .i64 i,.int .i64 t] w fun e w' =>
   e = .returned (.int .i64 r) ∧ GuardAt w' p q cap (N + 1) gs' ∧ Fr (· = q) w w':=by
 have:=go_any p q cap N gs i t w hg hN
 rw [hE] at this
 exact this
theorem count_is {p q cap N:Nat} {gs:List Gate} {i r:Int} {w:World} (hg:GuardAt w p q cap N gs) (hE:countF gs i = r) :
  Calls Tryz.prog 62 #[.pointer (some ⟨p,0,none⟩),.int .i64 i] w fun e w'=>e = .returned (.int .i64 r) ∧ w = w':=by
 have:=count_any p q cap N gs i w hg
 rw [hE] at this
 exact this
end
section
open Go.RowKit
attribute [local go_sem ↓] Go.wp_at_zero Go.wp_at_succ
def tkv (t:Tk):Value:=.agg #[.string t.nm,.int .i64 t.T,.int .i64 t.D,.int .i64 t.C,.int .i64 t.A,.int .i64 t.Seg,.int .i64 t.Cost,.int .i64 t.M,.int .i64 t.K,.int .i64 t.Mode,.int .i64 t.Prio]
theorem w64 {a:Int} (h1:-9223372036854775808 ≤ a) (h2:a ≤ 9223372036854775807):wrap64 a = a:=by unfold wrap64;omega
theorem mul_any (a b:Int) (w:World) (ha:0 ≤ a) (hb:0 ≤ b) (h1:a ≤ 2147483648) (h2:b ≤ 2147483648) :
  Calls Tryz.prog 116 #[.int .i64 a,.int .i64 b] w fun e w'=>e = .returned (.tuple #[.int .i64 (a * b),.bool true]) ∧ w = w':=by
 have h3:a * b ≤ 2147483648 * 2147483648:=Int.mul_le_mul h1 h2 hb (by omega)
 have h4:0 ≤ a * b:=Int.mul_nonneg ha hb
 have h5:0 < b → a ≤ 4611686018427387904 / b:=fun hb0=>(Int.le_ediv_iff_mul_le hb0).2 (by omega)
 have hw:wrap64 (a * b) = a * b:=w64 (by omega) (by omega)
 have H5:=Lib.hid h5
 have Hw:=Lib.hid hw
 clear h3 h4 h5 hw
 by_cases hb0:0 < b
 ·have h6:=H5.out hb0
  go_enter Tryz.func116,Tryz.ntmps116
  go_wp2_with (go_at_call 141;refine (time_any _ _).mono ?_;rintro e w' ⟨rfl,rfl⟩)
  all_goals (go_ret2;exact ⟨by simp [Hw.out],rfl⟩)
 ·go_enter Tryz.func116,Tryz.ntmps116
  go_wp2_with (go_at_call 141;refine (time_any _ _).mono ?_;rintro e w' ⟨rfl,rfl⟩)
  all_goals (go_ret2;exact ⟨by simp [Hw.out],rfl⟩)
theorem ceil_eq {a b:Int} (hb:1 ≤ b):(if a / b * b < a then a / b + 1 else a / b) = ceilI a b:=by
 unfold ceilI
 have h1:=Int.emod_add_mul_ediv a b
 have h2:=Int.emod_nonneg a (b:=b) (by omega)
 have h3:=Int.emod_lt_of_pos a (b:=b) (by omega)
 have h4:a / b * b = b * (a / b):=Int.mul_comm _ _
 rw [h4]
 split
 ·rename_i h
  have h5:1 ≤ a % b:=by omega
  have e:a + b - 1 = (a % b - 1) + b * (a / b + 1):=by rw [Int.mul_add,Int.mul_one];omega
  have z:(a % b - 1) / b = 0:=Int.ediv_eq_zero_of_lt (by omega) (by omega)
  rw [e,Int.add_mul_ediv_left _ _ (by omega:b ≠ 0),z];omega
 ·rename_i h
  have e:a + b - 1 = (b - 1) + b * (a / b):=by omega
  have z:(b - 1) / b = 0:=Int.ediv_eq_zero_of_lt (by omega) (by omega)
  rw [e,Int.add_mul_ediv_left _ _ (by omega:b ≠ 0),z];omega
theorem ceil_any (a b:Int) (w:World) (ha:0 ≤ a) (hb:1 ≤ b) (h1:a ≤ 2147483648) (h2:b ≤ 2147483648) :
  Calls Tryz.prog 119 #[.int .i64 a,.int .i64 b] w fun e w'=>e = .returned (.tuple #[.int .i64 (ceilI a b),.bool true]) ∧ w = w':=by
 have h3:a / b * b ≤ a:=Int.ediv_mul_le a (by omega)
 have h4:0 ≤ a / b:=Int.ediv_nonneg ha (by omega)
 have h5:a / b ≤ a:=by
  have:=Int.ediv_le_self b ha
  exact this
 have h6:0 ≤ a / b * b:=Int.mul_nonneg h4 (by omega)
 have hw:wrap64 (a / b * b) = a / b * b:=w64 (by omega) (by omega)
 have HE:=Lib.hid (ceil_eq (a:=a) hb)
 have hb0:(b == 0) = false:=by simp;omega
 have hbz:b ≠ 0:=by omega
 clear h6
 by_cases hc:a / b * b < a
 ·rw [if_pos hc] at HE
  go_enter Tryz.func119,Tryz.ntmps119
  go_wp2_with (go_at_call 141;refine (time_any _ _).mono ?_;rintro e w' ⟨rfl,rfl⟩)
  all_goals (go_ret2;exact ⟨by simp [HE.out],rfl⟩)
 ·rw [if_neg hc] at HE
  go_enter Tryz.func119,Tryz.ntmps119
  go_wp2_with (go_at_call 141;refine (time_any _ _).mono ?_;rintro e w' ⟨rfl,rfl⟩)
  all_goals (go_ret2;exact ⟨by simp [HE.out],rfl⟩)
theorem extra_any (t:Tk) (ht:t.Ok) (w:World) :
  Calls Tryz.prog 164 #[tkv t] w fun e w'=>e = .returned (.int .i64 (extraT t)) ∧ Below w.heap.size w w':=by
 unfold tkv extraT
 have h0:=ht.k0
 have h1:=ht.k1
 have h2:=ht.cd
 have h3:=ht.dt
 have h4:=ht.tm
 by_cases hm:t.Mode = 1
 ·rw [if_pos hm]
  obtain ⟨h5,h6,_⟩:=ht.r1 hm
  go_enter Tryz.func164,Tryz.ntmps164
  go_wp2
  go_ret
  exact ⟨rfl,bel_alloc (Below.refl _ _) _⟩
 ·rw [if_neg hm]
  obtain ⟨h5,h6,_⟩:=ht.r2 hm
  have hmb:(t.Mode == 1) = false:=by simpa using hm
  go_enter Tryz.func164,Tryz.ntmps164
  go_wp2
  go_ret
  exact ⟨rfl,bel_alloc (Below.refl _ _) _⟩
theorem whole_any (t:Tk) (ht:t.Ok) (w:World) :
  Calls Tryz.prog 113 #[tkv t] w fun e w'=>e = .returned (.int .i64 (wholeT t)) ∧ Below w.heap.size w w':=by
 unfold tkv wholeT
 have h0:=ht.k0
 have h1:=ht.k1
 have hc:=ht.c1
 have h2:=ht.cd
 have h3:=ht.dt
 have h4:=ht.tm
 by_cases hm:t.Mode = 1
 ·rw [if_pos hm]
  obtain ⟨h5,h6,h7⟩:=ht.r1 hm
  have hq:0 ≤ (t.C + t.Seg - 1) / t.Seg ∧ (t.C + t.Seg - 1) / t.Seg ≤ t.C:=by
   refine ⟨Int.ediv_nonneg (by omega) (by omega),?_⟩
   have:(t.C + t.Seg - 1) / t.Seg < t.C + 1:=(Int.ediv_lt_iff_lt_mul (by omega)).2 (by
    have:0 ≤ (t.C) * (t.Seg - 1):=Int.mul_nonneg (by omega) (by omega)
    rw [Int.mul_sub,Int.mul_one] at this
    rw [Int.add_mul,Int.one_mul]
    omega)
   omega
  have hp1:0 ≤ (t.C + t.Seg - 1) / t.Seg * t.Cost:=Int.mul_nonneg hq.1 h0
  have hp2:(t.C + t.Seg - 1) / t.Seg * t.Cost ≤ 1048576 * 1000:=Int.mul_le_mul (by omega) h1 h0 (by omega)
  have HC:=Lib.hid fun W=>ceil_any t.C t.Seg W (by omega) h5 (by omega) (by omega)
  unfold ceilI at HC
  clear ht h7
  generalize (t.C + t.Seg - 1) / t.Seg = q at *
  have hw:wrap64 (q * t.Cost) = q * t.Cost:=w64 (by omega) (by omega)
  have hw2:wrap64 (t.C + q * t.Cost) = t.C + q * t.Cost:=w64 (by omega) (by omega)
  generalize hqc:q * t.Cost = qc at *
  have HQ:=Lib.hid hqc
  clear hqc
  go_enter Tryz.func113,Tryz.ntmps113
  go_wp2_with (go_at_call 119;refine (HC.out _).mono ?_;rintro e w' ⟨rfl,rfl⟩)
  go_ret
  exact ⟨by simp [HQ.out,hw,hw2],bel_alloc (Below.refl _ _) _⟩
 ·rw [if_neg hm]
  have hmb:(t.Mode == 1) = false:=by simpa using hm
  go_enter Tryz.func113,Tryz.ntmps113
  go_wp2
  go_ret
  exact ⟨rfl,bel_alloc (Below.refl _ _) _⟩
theorem cut_any (t:Tk) (d:Int) (w:World) :
  Calls Tryz.prog 99 #[tkv t,.int .i64 d] w fun e w'=>e = .returned (.tuple #[.int .i64 (cut t d),.bool (decide (t.C < d))]) ∧ Below w.heap.size w w':=by
 unfold tkv cut
 have hb:=bel_alloc (Below.refl w.heap.size w) (.cells #[.string t.nm,.int .i64 t.T,.int .i64 t.D,.int .i64 t.C,.int .i64 t.A,.int .i64 t.Seg,.int .i64 t.Cost,.int .i64 t.M,.int .i64 t.K,.int .i64 t.Mode,.int .i64 t.Prio] 41)
 have hc:=cell_newb w #[.string t.nm,.int .i64 t.T,.int .i64 t.D,.int .i64 t.C,.int .i64 t.A,.int .i64 t.Seg,.int .i64 t.Cost,.int .i64 t.M,.int .i64 t.K,.int .i64 t.Mode,.int .i64 t.Prio] 41 _ 3 _ rfl rfl
 go_enter Tryz.func99,Tryz.ntmps99
 go_wp2_with fail
 generalize w.alloc (.cells #[.string t.nm,.int .i64 t.T,.int .i64 t.D,.int .i64 t.C,.int .i64 t.A,.int .i64 t.Seg,.int .i64 t.Cost,.int .i64 t.M,.int .i64 t.K,.int .i64 t.Mode,.int .i64 t.Prio] 41) = w1 at *
 go_quiet (fail)
 go_wp2_with fail
 all_goals
  go_ret2
  refine ⟨?_,bel_drewN hb _⟩
  have e1:∀ x y:Int,x = y → Ending.returned (.tuple #[.int .i64 x,.bool (decide (t.C < d))]) = .returned (.tuple #[.int .i64 y,.bool (decide (t.C < d))]):=fun x y e=>by rw [e]
  refine e1 _ _ ?_
  (try simp only [Int.lt_irrefl,Int.not_lt] at *)
  (repeat' split) <;> omega
end
end Go.Proofs.YtnoahekcemfmcaaGreatDoor
