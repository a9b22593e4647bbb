/- A part of the walk: Tr W2 HeapP HeapQ. -/
import Derived.Test.YtnoahekcemfmcaaGreatDoorR15
import Derived.Test.YtnoahekcemfmcaaGreatDoorR12
import Derived.Test.YtnoahekcemfmcaaGreatDoorR03
namespace Go.Proofs.YtnoahekcemfmcaaGreatDoor
set_option linter.unusedVariables false
set_option linter.unusedSimpArgs false
set_option maxHeartbeats 80000000
set_option maxRecDepth 100000
section
open Go.RowKit
structure TA (w:World) (y p q k f n:Nat) (ef:Nat → Nat → Int) (tf:Nat → Int):Prop where
 c0:w.cell? ⟨y,0,none⟩ = some (.pointer (some ⟨p,0,none⟩))
 ct:∀ i,i < 192 → w.cell? ⟨y,1 + i,none⟩ = some (.int .i64 (tf i))
 fz:∀ o,w.frozen? ⟨y,o,none⟩ = false
 re:RE w p q k f n ef
 yp:y ≠ p
 yq:y ≠ q
section
variable {w w':World} {y p q k f n:Nat} {ef:Nat → Nat → Int} {tf:Nat → Int}
theorem TA.ylt (h:TA w y p q k f n ef tf):y < w.heap.size:=block_lt h.c0
theorem TA.keep {T:Nat → Prop} (h:TA w y p q k f n ef tf) (hf:Fr T w w') (hy:¬ T y) (hp:¬ T p) (hq:¬ T q):TA w' y p q k f n ef tf :=
 ⟨(hf.cell (p:=⟨y,0,none⟩) h.ylt hy).trans h.c0,fun i hi=>(hf.cell (p:=⟨y,1 + i,none⟩) h.ylt hy).trans (h.ct i hi),fun o=>(hf.frozen (p:=⟨y,o,none⟩) h.ylt hy).trans (h.fz o),h.re.keep hf hp hq,h.yp,h.yq⟩
theorem counted_is (a b:Int) (w:World) (h1:1 ≤ a) (h2:a < 12) (h3:0 ≤ b) (h4:b < 16) :
  Calls Tryz.prog 142 #[.int .i64 a,.int .i64 b] w fun e w'=>e = .returned (.bool true) ∧ w' = w:=by
 have d1:decide (a ≥ 1) = true:=decide_eq_true h1
 have d2:decide (a < 12) = true:=decide_eq_true h2
 have d3:decide (b ≥ 0) = true:=decide_eq_true h3
 have d4:decide (b < 16) = true:=decide_eq_true h4
 go_enter Tryz.func142,Tryz.ntmps142
 go_wp2
 go_ret
 exact ⟨rfl,rfl⟩
theorem aadd_is (a:Addr) (v:Int) (w:World) (hc:w.cell? a = some (.int .i64 v)) (hz:w.frozen? a = false) :
  Calls Tryz.prog 87 #[.pointer (some a),.int .i64 1] w fun e w'=>(∃ r,e = .returned r) ∧ ∃ s:Int,w' = w.setCell a (.int .i64 s):=by
 have hadd:=run_call_add (P:=Tryz.prog) Tryz.func125 (by kernel_rfl) (by kernel_rfl) (by kernel_rfl) .i64 (by kernel_rfl) (y:=1) (s:=IntKind.i64.wrap (v + 1)) hc hz (by simp [go_sem])
 go_enter Tryz.func87,Tryz.ntmps87
 go_wp2
 go_ret
 exact ⟨⟨_,rfl⟩,_,rfl⟩
theorem TA.put (h:TA w y p q k f n ef tf) (i:Nat) (hi:i < 192) (v:Int):TA (w.setCell ⟨y,1 + i,none⟩ (.int .i64 v)) y p q k f n ef (upd tf i v):=by
 have hF:Fr (· = y) w (w.setCell ⟨y,1 + i,none⟩ (.int .i64 v)):=(Fr.refl (· = y) w).setCell (p:=⟨y,1 + i,none⟩) rfl _
 refine ⟨?_,fun j hj=>?_,fun o=>by simpa using h.fz o,h.re.keep hF (fun e=>h.yp e.symm) (fun e=>h.yq e.symm),h.yp,h.yq⟩
 ·rw [World.cell?_setCell_other _ _ _ _ (addr_ne (by omega))];exact h.c0
 ·by_cases e:j = i
  ·subst e;rw [upd_self];exact World.cell?_setCell_same _ _ _ (h.ct j hj)
  ·rw [upd_ne _ _ e,World.cell?_setCell_other _ _ _ _ (addr_ne (by omega))];exact h.ct j hj
theorem TA.ring {f' n':Nat} {ef':Nat → Nat → Int} (h:TA w y p q k f n ef tf) (hf:Fr (fun j=>j = p ∨ j = q) w w') (hr:RE w' p q k f' n' ef'):TA w' y p q k f' n' ef' tf:=by
 have hy:¬ (y = p ∨ y = q):=fun e=>e.elim h.yp h.yq
 exact ⟨(hf.cell (p:=⟨y,0,none⟩) h.ylt hy).trans h.c0,fun i hi=>(hf.cell (p:=⟨y,1 + i,none⟩) h.ylt hy).trans (h.ct i hi),fun o=>(hf.frozen (p:=⟨y,o,none⟩) h.ylt hy).trans (h.fz o),hr,h.yp,h.yq⟩
def evf (x0 x1 x2 x3 x4:Int):Nat → Int
 | 0=>x0
 | 1=>x1
 | 2=>x2
 | 3=>x3
 | _=>x4
theorem tadd_is (h:TA w y p q k f n ef tf) (x0 x3 x4:Int) {a b:Nat} (h1:1 ≤ a) (h2:a < 12) (h4:b < 16) :
  Calls Tryz.prog 98 #[.pointer (some ⟨y,0,none⟩),.agg #[.int .i64 x0,.int .i64 a,.int .i64 b,.int .i64 x3,.int .i64 x4]] w fun e w'=>e = .returned (.bool true) ∧ (∃ f' n' ef' tf',TA w' y p q k f' n' ef' tf') ∧ Fr (fun j=>j = y ∨ j = p ∨ j = q) w w':=by
 have hyl:=h.ylt
 have hpl:=h.re.plt
 have hql:=h.re.qlt
 have hbw:=bel_alloc (Below.refl w.heap.size w) (.cells #[.int .i64 x0,.int .i64 a,.int .i64 b,.int .i64 x3,.int .i64 x4] 44)
 have hX:Blk5 (w.alloc (.cells #[.int .i64 x0,.int .i64 a,.int .i64 b,.int .i64 x3,.int .i64 x4] 44)) w.heap.size (evf x0 a b x3 x4) :=
  ⟨fun j hj=>cell_newb w _ 44 _ j _ rfl (by match j,hj with | 0,_=>rfl | 1,_=>rfl | 2,_=>rfl | 3,_=>rfl | 4,_=>rfl),fun o=>by simp⟩
 have hF0:Fr (fun j=>j = y ∨ j = p ∨ j = q) w (w.alloc (.cells #[.int .i64 x0,.int .i64 a,.int .i64 b,.int .i64 x3,.int .i64 x4] 44)):=Fr.of_below hbw
 have h1':=h.keep (T:=fun _=>False) (Fr.of_below hbw) (by simp) (by simp) (by simp)
 have HF0:=Lib.hid hF0
 have HC:=Lib.hid (fun w=>counted_is (a:Int) (b:Int) w (by omega) (by omega) (by omega) (by omega))
 have e1:=cell_newb w #[.int .i64 x0,.int .i64 a,.int .i64 b,.int .i64 x3,.int .i64 x4] 44 _ 1 _ rfl rfl
 have e2:=cell_newb w #[.int .i64 x0,.int .i64 a,.int .i64 b,.int .i64 x3,.int .i64 x4] 44 _ 2 _ rfl rfl
 clear h hF0 hbw
 go_enter Tryz.func98,Tryz.ntmps98
 go_wp2_with (go_at_call 142;refine (HC.out _).mono ?_;rintro e w' ⟨rfl,rfl⟩)
 generalize w.heap.size = wb at *
 generalize w.alloc (.cells #[.int .i64 x0,.int .i64 a,.int .i64 b,.int .i64 x3,.int .i64 x4] 44) = w1 at *
 have c0:=h1'.c0
 clear e1 e2
 have e0:w1.cell? ⟨wb,0,none⟩ = some (.int .i64 x0):=hX.c 0 (by omega)
 have e1:w1.cell? ⟨wb,1,none⟩ = some (.int .i64 a):=hX.c 1 (by omega)
 have e2:w1.cell? ⟨wb,2,none⟩ = some (.int .i64 b):=hX.c 2 (by omega)
 have e3:w1.cell? ⟨wb,3,none⟩ = some (.int .i64 x3):=hX.c 3 (by omega)
 have e4:w1.cell? ⟨wb,4,none⟩ = some (.int .i64 x4):=hX.c 4 (by omega)
 have HP:Hid (∀ m,Calls Tryz.prog 143 #[.pointer (some ⟨p,0,none⟩),.agg #[.int .i64 x0,.int .i64 a,.int .i64 b,.int .i64 x3,.int .i64 x4]] (w1.drewN m) fun e w'=>(∃ b,e = .returned (.bool b)) ∧ (∃ f' n' ef',RE w' p q k f' n' ef') ∧ Fr (fun j=>j = p ∨ j = q) (w1.drewN m) w'):=fun m=>epush_is (h1'.re.drewN m) (evf x0 a b x3 x4)
 have HT:=Lib.hid (fun m=>h1'.keep (T:=fun _=>False) ((Fr.refl _ w1).drewN m) (by simp) (by simp) (by simp))
 have hbp:¬ (wb = p ∨ wb = q):=by omega
 have hby:wb ≠ y:=by omega
 have hi1:(a:Int) < 12:=by omega
 have hi2:(b:Int) < 16:=by omega
 have hj1:(0:Int) ≤ (a:Int):=by omega
 have hj2:(0:Int) ≤ (b:Int):=by omega
 have hj3:(1:Int) ≤ (a:Int):=by omega
 go_region_law (go_simp;go_at_call 143;refine Calls.mono (by first | exact HP.out _ | exact HP.out 1 | exact HP.out 0) ?_;rintro e w4 ⟨⟨b4,rfl⟩,⟨f',n',ef',h4⟩,f4⟩)
 all_goals
  clear c0 e0 e1 e2 e3 e4
  have hT4:=TA.ring (by first | exact HT.out _ | exact HT.out 1 | exact HT.out 0) f4 h4
  have hF4:Fr (fun j=>j = y ∨ j = p ∨ j = q) w w4:=Fr.trans (Fr.drewN HF0.out 1) f4 (fun _ _ h=>h) (fun _ _ h=>.inr h)
  have X4:=(hX.keep (T:=fun _=>False) ((Fr.refl _ w1).drewN 1) (by simp)).keep f4 hbp
  have e1:w4.cell? ⟨wb,1,none⟩ = some (.int .i64 a):=X4.c 1 (by omega)
  have e2:w4.cell? ⟨wb,2,none⟩ = some (.int .i64 b):=X4.c 2 (by omega)
  have ct:w4.cell? ⟨y,1 + a * 16 + b,none⟩ = some (.int .i64 (tf (a * 16 + b))):=by rw [Nat.add_assoc];exact hT4.ct _ (by omega)
  have zt:=hT4.fz (1 + a * 16 + b)
  have HA:=Lib.hid (fun m=>aadd_is ⟨y,1 + a * 16 + b,none⟩ (tf (a * 16 + b)) (w4.drewN m) (by rw [World.cell?_drewN];exact ct) (by rw [World.frozen?_drewN];exact zt))
  have HFIN:Hid (∀ (m:Nat) (s:Int),TA ((w4.drewN m).setCell ⟨y,1 + a * 16 + b,none⟩ (.int .i64 s)) y p q k f' n' ef' (upd tf (a * 16 + b) s)):=fun m s=>by
   rw [Nat.add_assoc]
   exact (hT4.keep (T:=fun _=>False) ((Fr.refl _ w4).drewN m) (by simp) (by simp) (by simp)).put _ (by omega) s
  clear f4 h4 X4 HP HC HT
  go_wp2_with fail
  go_region_law (go_simp;go_at_call 87;refine Calls.mono (by first | exact HA.out _ | exact HA.out 1 | exact HA.out 0) ?_;rintro e w5 ⟨⟨r5,rfl⟩,s5,rfl⟩)
  all_goals
   go_wp2_with fail
   go_ret
   exact ⟨rfl,⟨_,_,_,_,HFIN.out _ _⟩,(hF4.drewN _).setCell (p:=⟨y,1 + a * 16 + b,none⟩) (.inl rfl) _⟩
theorem tnew_good (k:Nat) (w:World) (h1:1 ≤ k) (h2:k ≤ 4096) :
  Calls Tryz.prog 38 #[.int .i64 k] w fun e w'=>(∃ y p q f n ef tf,e = .returned (.tuple #[.pointer (some ⟨y,0,none⟩),.int .i64 0]) ∧ TA w' y p q k f n ef tf ∧ w.heap.size ≤ y ∧ w.heap.size ≤ p ∧ w.heap.size ≤ q) ∧ Below w.heap.size w w':=by
 have HR:=Lib.hid (enew_good k w h1 h2)
 go_enter Tryz.func38,Tryz.ntmps38
 go_wp2_with (go_at_call 58;refine HR.out.mono ?_;rintro e w1 ⟨⟨p,q,rfl,hr,hp,hq⟩,hb⟩)
 go_ret2
 have hF:Fr (fun _=>False) w1 (w1.alloc (.cells (Tryz.zeroCells156.setIfInBounds 0 (.pointer (some ⟨p,0,none⟩))) 156)):=(Fr.refl _ w1).alloc _
 have hpl:=hr.plt
 have hql:=hr.qlt
 have hz:Tryz.zeroCells156.toList = .pointer none :: List.replicate 192 (.int .i64 0):=by kernel_rfl
 have hs:(Tryz.zeroCells156.setIfInBounds 0 (.pointer (some ⟨p,0,none⟩))).toList = .pointer (some ⟨p,0,none⟩) :: List.replicate 192 (.int .i64 0):=by
  rw [Array.toList_setIfInBounds,hz];rfl
 refine ⟨⟨w1.heap.size,p,q,0,0,fun _ _=>0,fun _=>0,rfl,⟨cell_newb _ _ _ _ 0 _ rfl (by rw [hs];rfl),fun i hi=>cell_newb _ _ _ _ (1 + i) _ rfl ?_,fun o=>by simp,hr.keep hF (by simp) (by simp),by omega,by omega⟩,hb.size,hp,hq⟩,hb.alloc hb.size _⟩
 rw [hs,Nat.add_comm,List.getElem?_cons_succ,List.getElem?_replicate,if_pos hi]
end
end
section
open Go.RowKit
def Idx (pr:Q → Bool) (l:List Q) (r:Int):Prop :=
 (r = -1 ∧ ∀ j (h:j < l.length),pr l[j] = false) ∨ ∃ q:Nat,∃ h:q < l.length,r = (q:Int) ∧ pr l[q] = true ∧ ∀ j (hj:j < l.length),j < q → pr l[j] = false
theorem Idx.any {pr:Q → Bool} {l:List Q} {r:Int} (h:Idx pr l r):decide (0 ≤ r) = l.any pr:=by
 rcases h with ⟨rfl,h⟩ | ⟨q,hq,rfl,h,_⟩
 ·have:l.any pr = false:=List.any_eq_false.2 fun x hx=>by
   obtain ⟨j,hj,rfl⟩:=List.mem_iff_getElem.1 hx
   rw [h j hj];simp
  rw [this];rfl
 ·have:l.any pr = true:=List.any_eq_true.2 ⟨_,List.getElem_mem hq,h⟩
  rw [this];simp
theorem idxK_any (B:Nat) (a:Option Addr) (n c:Nat) (l:List Q) (pr:Q → Bool) (g:Nat) (lb:Array Value) (w:World) (eg:∀ args w,(callFunc g args).run Tryz.prog w = .ok (.enter g args) w) (hx:QsIn B w a n l) (hB:B ≤ w.heap.size) (hn:n ≤ 9223372036854775807)
  (hp:∀ W,Below w.heap.size w W → ∀ x,Calls Tryz.prog g (#[qv x] ++ lb) W fun e w'=>e = .returned (.bool (pr x)) ∧ Below W.heap.size W w') :
  Calls Tryz.prog 147 #[.slice a n c,.func (.func g) #[] lb] w fun e w'=>(∃ r:Int,e = .returned (.int .i64 r) ∧ Idx pr l r) ∧ Below w.heap.size w w':=by
 have hlen:=hx.1
 have HP:=Lib.hid hp;clear hp
 go_enter Tryz.func147,Tryz.ntmps147
 go_wp2_with fail
 go_loopw [8] (fun i wr=>∃ k:Nat,k ≤ n ∧ i = .int .i64 k ∧ Hid (∀ j (h:j < l.length),j < k → pr l[j] = false) ∧ Below w.heap.size w wr) (fun i _=>n - (intOf i).toNat)
 case atStart=>exact ⟨0,Nat.zero_le _,rfl,fun j h hj=>by omega,Below.refl _ _⟩
 case round =>
  obtain ⟨k,hk,rfl,Hall,hb⟩:=hrel
  by_cases hlt:k < n
  ·obtain ⟨b,off,rfl,hbB,hcc⟩:=(hx.keep (hb.mono hB)).2 (by omega)
   have hq:=hcc k (by omega)
   have P:=HP.out wr hb l[k]
   have HY:Hid (pr l[k] = true → Idx pr l (k:Int)):=fun h=>.inr ⟨k,by omega,rfl,h,fun j hj hjk=>Hall.out j hj hjk⟩
   have HN:Hid (pr l[k] = false → ∀ j (h:j < l.length),j < k + 1 → pr l[j] = false):=by
    intro h j hj hjk
    rcases Nat.lt_or_ge j k with h' | h'
    ·exact Hall.out j hj h'
    ·obtain rfl:j = k:=by omega
     exact h
   obtain ⟨c0,c1,c2,c3⟩:=hq
   unfold qv at P
   generalize hpk:pr l[k] = pk at *
   generalize l[k].1 = x0 at *
   generalize l[k].2.1 = x1 at *
   generalize l[k].2.2.1 = x2 at *
   generalize l[k].2.2.2 = x3 at *
   have Hx:=Lib.hid hx
   have hkI:(k:Int) < (n:Int):=by omega
   clear hx hcc hpk
   have HPk:=Lib.hid P;clear P
   cases pk
   ·have HN':=Lib.hid (HN.out rfl)
    clear HN HY
    go_wp2_with fail
    refine HPk.out.mono ?_
    rintro e w2 ⟨rfl,hb2⟩
    go_wp2_with fail
    go_roundw
    case rel=>exact ⟨k + 1,by omega,by go_num,HN',hb.trans (hb2.mono hb.size)⟩
    case measure=>simp [intOf];omega
   ·have HY':=Lib.hid (HY.out rfl)
    clear HN HY
    go_wp2_with fail
    refine HPk.out.mono ?_
    rintro e w2 ⟨rfl,hb2⟩
    go_wp2_with fail
    go_ret
    exact ⟨⟨_,rfl,HY'.out⟩,hb.trans (hb2.mono hb.size)⟩
  ·go_wp2_with fail
   go_ret
   exact ⟨⟨_,rfl,.inl ⟨rfl,fun j hj=>Hall.out j hj (by omega)⟩⟩,hb⟩
end
section
structure Tot {α:Type} (lt:α → α → Bool):Prop where
 irr:∀ x,lt x x = false
 tr:∀ x y z,lt x y = true → lt y z = true → lt x z = true
 tri:∀ x y,lt x y = false → lt y x = false → x = y
section
variable {α:Type} [Inhabited α] {lt:α → α → Bool}
omit [Inhabited α] in
theorem Tot.asym (T:Tot lt) {x y:α} (h:lt x y = true):lt y x = false:=by
 cases hc:lt y x
 ·rfl
 ·have:=T.tr _ _ _ h hc;rw [T.irr] at this;cases this
omit [Inhabited α] in
theorem Tot.le_tr (T:Tot lt) {x y z:α} (h1:lt y x = false) (h2:lt z y = false):lt z x = false:=by
 cases hc:lt z x
 ·rfl
 ·cases hxy:lt x y
  ·have:=T.tri _ _ hxy h1;subst this;rw [hc] at h2;cases h2
  ·have:=T.tr _ _ _ hc hxy;rw [this] at h2;cases h2
def at' (l:List α) (i:Nat):α:=l.getD i default
theorem at_eq (l:List α) (i:Nat) (h:i < l.length):at' l i = l[i]:=by simp [at',h]
theorem at_set (l:List α) (i j:Nat) (x:α) (h:i < l.length):at' (l.set i x) j = if j = i then x else at' l j:=by
 unfold at'
 by_cases e:j = i
 ·subst e;simp [h]
 ·rw [if_neg e]
  simp only [List.getD_eq_getElem?_getD]
  rw [List.getElem?_set_ne (fun h=>e h.symm)]
theorem at_take (l:List α) (n k:Nat) (h:k < n):at' (l.take n) k = at' l k:=by
 unfold at'
 simp only [List.getD_eq_getElem?_getD]
 rw [List.getElem?_take_of_lt h]
theorem at_append_left (l m:List α) (k:Nat) (h:k < l.length):at' (l ++ m) k = at' l k:=by
 unfold at'
 simp only [List.getD_eq_getElem?_getD]
 rw [List.getElem?_append_left h]
def swp (l:List α) (i j:Nat):List α:=(l.set i (at' l j)).set j (at' l i)
theorem swp_length (l:List α) (i j:Nat):(swp l i j).length = l.length:=by simp [swp]
theorem at_swp (l:List α) (i j k:Nat) (hi:i < l.length) (hj:j < l.length):at' (swp l i j) k = if k = j then at' l i else if k = i then at' l j else at' l k:=by
 unfold swp
 rw [at_set _ _ _ _ (by simpa using hj),at_set _ _ _ _ hi]
theorem swp_perm (l:List α) (i j:Nat) (hi:i < l.length) (hj:j < l.length):(swp l i j).Perm l:=by
 have h:=Array.swap_perm (xs:=l.toArray) (i:=i) (j:=j) (by simpa using hi) (by simpa using hj)
 have e:(l.toArray.swap i j (by simpa using hi) (by simpa using hj)).toList = swp l i j:=by
  simp only [Array.swap,swp,at_eq l i hi,at_eq l j hj]
  simp
 have h2:=h.toList
 rw [e] at h2
 exact h2
def upL (lt:α → α → Bool) (l:List α) (i:Nat):List α :=
 if h:0 < i ∧ lt (at' l i) (at' l ((i - 1) / 2)) = true then upL lt (swp l i ((i - 1) / 2)) ((i - 1) / 2) else l
termination_by i
decreasing_by omega
def kid (lt:α → α → Bool) (l:List α) (i:Nat):Nat:=if 2 * i + 1 + 1 < l.length ∧ lt (at' l (2 * i + 1 + 1)) (at' l (2 * i + 1)) = true then 2 * i + 1 + 1 else 2 * i + 1
theorem kid_bd (l:List α) (i:Nat):i < kid lt l i ∧ (kid lt l i = 2 * i + 1 ∨ kid lt l i = 2 * i + 2):=by unfold kid;split <;> omega
def downL (lt:α → α → Bool) (l:List α) (i:Nat):List α :=
 if h:kid lt l i < l.length ∧ lt (at' l (kid lt l i)) (at' l i) = true then downL lt (swp l i (kid lt l i)) (kid lt l i) else l
termination_by l.length - i
decreasing_by
 have:=(kid_bd (lt:=lt) l i).1
 rw [swp_length];omega
def IsHp (lt:α → α → Bool) (l:List α):Prop:=∀ k,0 < k → k < l.length → lt (at' l k) (at' l ((k - 1) / 2)) = false
theorem up_heap (T:Tot lt) (i:Nat):∀ l:List α,i < l.length → (∀ k,0 < k → k < l.length → k ≠ i → lt (at' l k) (at' l ((k - 1) / 2)) = false) →
  (∀ k,0 < k → k < l.length → (k - 1) / 2 = i → 0 < i → lt (at' l k) (at' l ((i - 1) / 2)) = false) →
  IsHp lt (upL lt l i) ∧ (upL lt l i).Perm l:=by
 induction i using Nat.strongRecOn with
 | ind i ih =>
  intro l hi h hk
  rw [upL]
  split
  ·rename_i hc
   obtain ⟨h0,hlt⟩:=hc
   obtain ⟨p,hp⟩:∃ p,(i - 1) / 2 = p:=⟨_,rfl⟩
   rw [hp] at hlt hk ⊢
   have hpi:p < i:=by omega
   have hpl:p < l.length:=by omega
   have hsw:=fun k=>at_swp l i p k hi hpl
   refine (fun hab=>⟨hab.1,hab.2.trans (swp_perm l i p hi hpl)⟩) (ih p hpi (swp l i p) (by rw [swp_length];exact hpl) ?_ ?_)
   ·intro k k0 kl kp
    rw [swp_length] at kl
    rw [hsw,hsw,if_neg kp]
    by_cases ki:k = i
    ·subst ki
     rw [if_pos rfl,hp,if_pos rfl];exact T.asym hlt
    ·rw [if_neg ki]
     by_cases q1:(k - 1) / 2 = i
     ·rw [q1,if_neg (by omega),if_pos rfl];exact hk k k0 kl q1 h0
     ·by_cases q2:(k - 1) / 2 = p
      ·rw [q2,if_pos rfl]
       have:=h k k0 kl ki
       rw [q2] at this
       exact T.le_tr (T.asym hlt) this
      ·rw [if_neg q2,if_neg q1];exact h k k0 kl ki
   ·intro k k0 kl kp p0
    rw [swp_length] at kl
    have hpp:=h p p0 hpl (by omega)
    rw [hsw ((p - 1) / 2),if_neg (show (p - 1) / 2 ≠ p by omega),if_neg (show (p - 1) / 2 ≠ i by omega),hsw k,if_neg (show k ≠ p by omega)]
    by_cases ki:k = i
    ·rw [if_pos ki];exact hpp
    ·rw [if_neg ki]
     have:=h k k0 kl ki
     rw [kp] at this
     exact T.le_tr hpp this
  ·rename_i hc
   refine ⟨fun k k0 kl=>?_,List.Perm.refl _⟩
   by_cases ki:k = i
   ·subst ki
    cases hx:lt (at' l k) (at' l ((k - 1) / 2))
    ·rfl
    ·exact absurd ⟨k0,hx⟩ hc
   ·exact h k k0 kl ki
theorem down_heap (T:Tot lt) (n:Nat):∀ (i:Nat) (l:List α),l.length - i ≤ n → i < l.length → (∀ k,0 < k → k < l.length → k ≠ i → (k - 1) / 2 ≠ i → lt (at' l k) (at' l ((k - 1) / 2)) = false) →
  (∀ k,0 < k → k < l.length → (k - 1) / 2 = i → 0 < i → lt (at' l k) (at' l ((i - 1) / 2)) = false) →
  (∀ k,0 < k → k < l.length → k ≠ i → lt (at' (downL lt l i) k) (at' (downL lt l i) ((k - 1) / 2)) = false) ∧
  (∀ k,0 < k → k < l.length → (k - 1) / 2 = i → 0 < i → lt (at' (downL lt l i) k) (at' (downL lt l i) ((i - 1) / 2)) = false) ∧
  (downL lt l i).Perm l ∧ (downL lt l i).length = l.length ∧ (∀ k,k < i → at' (downL lt l i) k = at' l k) ∧
  (∀ z,lt (at' l i) z = false → (∀ k,0 < k → k < l.length → (k - 1) / 2 = i → lt (at' l k) z = false) → lt (at' (downL lt l i) i) z = false):=by
 induction n with
 | zero=>intro i l h1 h2;omega
 | succ n ih =>
  intro i l hn hi h hk
  obtain ⟨c,hc⟩:∃ c,kid lt l i = c:=⟨_,rfl⟩
  have hcb:=kid_bd (lt:=lt) l i
  rw [hc] at hcb
  obtain ⟨hic,hc2⟩:=hcb
  have hcp:(c - 1) / 2 = i:=by omega
  have hmin:c < l.length → ∀ k,0 < k → k < l.length → (k - 1) / 2 = i → lt (at' l k) (at' l c) = false:=by
   intro hcl k k0 kl kp
   unfold kid at hc
   by_cases hh:2 * i + 1 + 1 < l.length ∧ lt (at' l (2 * i + 1 + 1)) (at' l (2 * i + 1)) = true
   ·rw [if_pos hh] at hc
    subst hc
    have:k = 2 * i + 1 ∨ k = 2 * i + 1 + 1:=by omega
    rcases this with rfl | rfl
    ·exact T.asym hh.2
    ·exact T.irr _
   ·rw [if_neg hh] at hc
    subst hc
    have:k = 2 * i + 1 ∨ k = 2 * i + 1 + 1:=by omega
    rcases this with rfl | rfl
    ·exact T.irr _
    ·cases hx:lt (at' l (2 * i + 1 + 1)) (at' l (2 * i + 1))
     ·rfl
     ·exact absurd ⟨kl,hx⟩ hh
  rw [downL]
  simp only [hc]
  split
  ·rename_i hcc
   obtain ⟨hcl,hlt⟩:=hcc
   have hsw:=fun k=>at_swp l i c k hi hcl
   have kidc:∀ k,0 < k → k < l.length → (k - 1) / 2 = c → lt (at' (swp l i c) k) (at' l c) = false:=by
    intro k k0 kl kp
    rw [hsw,if_neg (by omega),if_neg (by omega)]
    have:=h k k0 kl (by omega) (by omega)
    rw [kp] at this;exact this
   refine (fun hab=>?_) (ih c (swp l i c) (by rw [swp_length];omega) (by rw [swp_length];exact hcl) ?_ ?_)
   ·obtain ⟨a1,a2,a3,a4,a5,a6⟩:=hab
    rw [swp_length] at a1 a2 a4
    have ei:at' (downL lt (swp l i c) c) i = at' l c:=by rw [a5 i hic,hsw,if_neg (by omega),if_pos rfl]
    have elow:∀ k,k < i → at' (downL lt (swp l i c) c) k = at' l k:=fun k hki=>by rw [a5 k (by omega),hsw,if_neg (by omega),if_neg (by omega)]
    have b1:∀ k,0 < k → k < l.length → k ≠ i → lt (at' (downL lt (swp l i c) c) k) (at' (downL lt (swp l i c) c) ((k - 1) / 2)) = false:=by
     intro k k0 kl ki
     by_cases kc:k = c
     ·subst kc
      rw [hcp,ei]
      refine a6 _ ?_ ?_
      ·rw [hsw,if_pos rfl];exact T.asym hlt
      ·intro q q0 ql qp
       rw [swp_length] at ql
       exact kidc q q0 ql qp
     ·exact a1 k k0 kl kc
    refine ⟨b1,?_,a3.trans (swp_perm l i c hi hcl),a4,elow,?_⟩
    ·intro k k0 kl kp i0
     have:=b1 k k0 kl (by omega)
     rw [kp,ei] at this
     rw [elow ((i - 1) / 2) (by omega)]
     exact T.le_tr (hk c (by omega) hcl hcp i0) this
    ·intro z hz hz2
     rw [ei];exact hz2 c (by omega) hcl hcp
   ·intro k k0 kl kc kp
    rw [swp_length] at kl
    rw [hsw,hsw,if_neg kc]
    by_cases ki:k = i
    ·rw [if_pos ki,if_neg kp,if_neg (by omega)]
     rw [ki]
     exact hk c (by omega) hcl hcp (by omega)
    ·rw [if_neg ki,if_neg kp]
     by_cases q1:(k - 1) / 2 = i
     ·rw [if_pos q1];exact hmin hcl k k0 kl q1
     ·rw [if_neg q1];exact h k k0 kl ki q1
   ·intro k k0 kl kp c0
    rw [swp_length] at kl
    rw [hcp]
    have e:at' (swp l i c) i = at' l c:=by rw [hsw,if_neg (by omega),if_pos rfl]
    rw [e]
    exact kidc k k0 kl kp
  ·rename_i hcc
   refine ⟨?_,hk,List.Perm.refl _,rfl,fun _ _=>rfl,fun z hz _=>hz⟩
   intro k k0 kl ki
   by_cases q1:(k - 1) / 2 = i
   ·rw [q1]
    have hcl:c < l.length:=by
     unfold kid at hc
     split at hc <;> omega
    have hx:lt (at' l c) (at' l i) = false:=by
     cases hx:lt (at' l c) (at' l i)
     ·rfl
     ·exact absurd ⟨hcl,hx⟩ hcc
    exact T.le_tr hx (hmin hcl k k0 kl q1)
   ·exact h k k0 kl ki q1
theorem downL_length (n:Nat):∀ (l:List α) (i:Nat),l.length - i ≤ n → (downL lt l i).length = l.length:=by
 induction n with
 | zero =>
  intro l i h
  rw [downL]
  split
  ·rename_i hc
   have:=(kid_bd (lt:=lt) l i).1
   omega
  ·rfl
 | succ n ih =>
  intro l i h
  rw [downL]
  split
  ·rename_i hc
   have:=(kid_bd (lt:=lt) l i).1
   rw [ih _ _ (by rw [swp_length];omega),swp_length]
  ·rfl
theorem fix_heap (T:Tot lt) (i:Nat) (l:List α) (hi:i < l.length) (h:∀ k,0 < k → k < l.length → k ≠ i → (k - 1) / 2 ≠ i → lt (at' l k) (at' l ((k - 1) / 2)) = false)
  (hk:∀ k,0 < k → k < l.length → (k - 1) / 2 = i → 0 < i → lt (at' l k) (at' l ((i - 1) / 2)) = false) :
  IsHp lt (upL lt (downL lt l i) i) ∧ (upL lt (downL lt l i) i).Perm l:=by
 obtain ⟨a1,a2,a3,a4,_,_⟩:=down_heap T (l.length - i) i l (Nat.le_refl _) hi h hk
 obtain ⟨b1,b2⟩:=up_heap T i (downL lt l i) (by rw [a4];exact hi) (by rw [a4];exact a1) (by rw [a4];exact a2)
 exact ⟨b1,b2.trans a3⟩
theorem root_least (T:Tot lt) (l:List α) (h:IsHp lt l) (k:Nat) (hk:k < l.length):lt (at' l k) (at' l 0) = false:=by
 induction k using Nat.strongRecOn with
 | ind k ih =>
  rcases Nat.eq_zero_or_pos k with rfl | k0
  ·exact T.irr _
  ·exact T.le_tr (ih ((k - 1) / 2) (by omega) (by omega)) (h k k0 hk)
theorem push_heap (T:Tot lt) (l:List α) (x:α) (h:IsHp lt l):IsHp lt (upL lt (l ++ [x]) l.length) ∧ (upL lt (l ++ [x]) l.length).Perm (l ++ [x]):=by
 refine up_heap T l.length (l ++ [x]) (by simp) ?_ ?_
 ·intro k k0 kl ki
  have:k < l.length:=by simp at kl;omega
  rw [at_append_left _ _ _ this,at_append_left _ _ _ (by omega)]
  exact h k k0 this
 ·intro k k0 kl kp i0
  simp at kl;omega
theorem change_heap (T:Tot lt) (l:List α) (i:Nat) (x:α) (hi:i < l.length) (h:IsHp lt l) :
  IsHp lt (upL lt (downL lt (l.set i x) i) i) ∧ (upL lt (downL lt (l.set i x) i) i).Perm (l.set i x):=by
 refine fix_heap T i (l.set i x) (by simpa using hi) ?_ ?_
 ·intro k k0 kl ki kp
  rw [at_set _ _ _ _ hi,at_set _ _ _ _ hi,if_neg ki,if_neg kp]
  exact h k k0 (by simpa using kl)
 ·intro k k0 kl kp i0
  have kl':k < l.length:=by simpa using kl
  rw [at_set _ _ _ _ hi,at_set _ _ _ _ hi,if_neg (by omega),if_neg (by omega)]
  have h1:=h k k0 kl'
  rw [kp] at h1
  exact T.le_tr (h i i0 hi) h1
def outL (lt:α → α → Bool) (l:List α) (i:Nat):List α :=
 if i < l.length - 1 then upL lt (downL lt ((swp l i (l.length - 1)).take (l.length - 1)) i) i else (swp l i (l.length - 1)).take (l.length - 1)
theorem swp_out_perm (l:List α) (i:Nat) (hi:i < l.length):(at' l i :: (swp l i (l.length - 1)).take (l.length - 1)).Perm l:=by
 have h1:=swp_perm l i (l.length - 1) hi (by omega)
 have h2:(swp l i (l.length - 1)) = (swp l i (l.length - 1)).take (l.length - 1) ++ [at' l i]:=by
  have hlen:=swp_length l i (l.length - 1)
  have e:=List.take_append_drop (l.length - 1) (swp l i (l.length - 1))
  have hd:(swp l i (l.length - 1)).drop (l.length - 1) = [at' l i]:=by
   rw [List.drop_eq_getElem_cons (by rw [hlen];omega)]
   have:l.length - 1 + 1 = (swp l i (l.length - 1)).length:=by rw [hlen];omega
   rw [this,List.drop_length]
   congr 1
   rw [← at_eq _ _ (by rw [hlen];omega),at_swp _ _ _ _ hi (by omega),if_pos rfl]
  rw [hd] at e;exact e.symm
 rw [h2] at h1
 exact (List.perm_append_comm (l₁:=[at' l i])).trans h1
theorem out_heap (T:Tot lt) (l:List α) (i:Nat) (hi:i < l.length) (h:IsHp lt l):IsHp lt (outL lt l i) ∧ (at' l i :: outL lt l i).Perm l:=by
 have hlen:((swp l i (l.length - 1)).take (l.length - 1)).length = l.length - 1:=by rw [List.length_take,swp_length];omega
 have hat:∀ k,k < l.length - 1 → k ≠ i → at' ((swp l i (l.length - 1)).take (l.length - 1)) k = at' l k:=fun k hk hki=>by
  rw [at_take _ _ _ hk,at_swp _ _ _ _ hi (by omega),if_neg (by omega),if_neg hki]
 unfold outL
 by_cases hl:i < l.length - 1
 ·rw [if_pos hl]
  obtain ⟨a,b⟩:=fix_heap T i _ (by rw [hlen];exact hl) (fun k k0 kl ki kp=>by
   rw [hlen] at kl
   rw [hat k kl ki,hat _ (by omega) kp]
   exact h k k0 (by omega)) (fun k k0 kl kp i0=>by
   rw [hlen] at kl
   rw [hat k kl (by omega),hat _ (by omega) (by omega)]
   have h1:=h k k0 (by omega)
   rw [kp] at h1
   exact T.le_tr (h i i0 hi) h1)
  exact ⟨a,(b.cons _).trans (swp_out_perm l i hi)⟩
 ·rw [if_neg hl]
  refine ⟨fun k k0 kl=>?_,swp_out_perm l i hi⟩
  rw [hlen] at kl
  rw [hat k kl (by omega),hat _ (by omega) (by omega)]
  exact h k k0 (by omega)
end
end
section
open Go.RowKit
theorem cmp3_neg (a b:Int):cmp3 a b = -cmp3 b a:=by unfold cmp3;split <;> split <;> omega
theorem cmp3_zero (a b:Int):cmp3 a b = 0 ↔ a = b:=by
 unfold cmp3
 by_cases h1:a < b
 ·rw [if_pos h1];omega
 ·rw [if_neg h1]
  by_cases h2:b < a
  ·rw [if_pos h2];omega
  ·rw [if_neg h2];omega
theorem cmp3_lt (a b:Int):cmp3 a b < 0 ↔ a < b:=by
 unfold cmp3
 by_cases h1:a < b
 ·rw [if_pos h1];omega
 ·rw [if_neg h1]
  by_cases h2:b < a
  ·rw [if_pos h2];omega
  ·rw [if_neg h2];omega
theorem cmpK_neg (x y:Q):cmpK x y = -cmpK y x:=by
 unfold cmpK
 rw [cmp3_neg x.1 y.1,cmp3_neg x.2.1 y.2.1,cmp3_neg x.2.2.1 y.2.2.1,cmp3_neg x.2.2.2 y.2.2.2]
 simp only [orL]
 by_cases h1:cmp3 y.1 x.1 = 0
 ·by_cases h2:cmp3 y.2.1 x.2.1 = 0
  ·by_cases h3:cmp3 y.2.2.1 x.2.2.1 = 0
   ·by_cases h4:cmp3 y.2.2.2 x.2.2.2 = 0 <;> simp [h1,h2,h3,h4]
   ·simp [h1,h2,h3]
  ·simp [h1,h2]
 ·simp [h1]
def ltK (x y:Q):Bool:=decide (cmpK x y < 0)
theorem ltK_iff (x y:Q):ltK x y = true ↔ x.1 < y.1 ∨ x.1 = y.1 ∧ (x.2.1 < y.2.1 ∨ x.2.1 = y.2.1 ∧ (x.2.2.1 < y.2.2.1 ∨ x.2.2.1 = y.2.2.1 ∧ x.2.2.2 < y.2.2.2)):=by
 unfold ltK cmpK
 rw [decide_eq_true_eq]
 simp only [orL]
 have l1:=cmp3_lt x.1 y.1
 have l2:=cmp3_lt x.2.1 y.2.1
 have l3:=cmp3_lt x.2.2.1 y.2.2.1
 have l4:=cmp3_lt x.2.2.2 y.2.2.2
 have z1:=cmp3_zero x.1 y.1
 have z2:=cmp3_zero x.2.1 y.2.1
 have z3:=cmp3_zero x.2.2.1 y.2.2.1
 have z4:=cmp3_zero x.2.2.2 y.2.2.2
 by_cases h1:cmp3 x.1 y.1 = 0
 ·rw [if_pos h1]
  have e1:=z1.1 h1
  by_cases h2:cmp3 x.2.1 y.2.1 = 0
  ·rw [if_pos h2]
   have e2:=z2.1 h2
   by_cases h3:cmp3 x.2.2.1 y.2.2.1 = 0
   ·rw [if_pos h3]
    have e3:=z3.1 h3
    by_cases h4:cmp3 x.2.2.2 y.2.2.2 = 0
    ·rw [if_pos h4];have e4:=z4.1 h4;omega
    ·rw [if_neg h4,l4];omega
   ·rw [if_neg h3,l3]
    have e3:¬ x.2.2.1 = y.2.2.1:=fun e=>h3 (z3.2 e)
    omega
  ·rw [if_neg h2,l2]
   have e2:¬ x.2.1 = y.2.1:=fun e=>h2 (z2.2 e)
   omega
 ·rw [if_neg h1,l1]
  have e1:¬ x.1 = y.1:=fun e=>h1 (z1.2 e)
  omega
theorem ltK_not (x y:Q):ltK x y = false ↔ ¬ (x.1 < y.1 ∨ x.1 = y.1 ∧ (x.2.1 < y.2.1 ∨ x.2.1 = y.2.1 ∧ (x.2.2.1 < y.2.2.1 ∨ x.2.2.1 = y.2.2.1 ∧ x.2.2.2 < y.2.2.2))):=by rw [← ltK_iff];simp
theorem totK:Tot ltK where
 irr x:=by rw [ltK_not];omega
 tr x y z h1 h2:=by rw [ltK_iff] at *;omega
 tri x y h1 h2:=by
  rw [ltK_not] at *
  exact Prod.ext (by omega) (Prod.ext (by omega) (Prod.ext (by omega) (by omega)))
theorem ltK_le (x y:Q):(decide (cmpK x y ≤ 0)) = !ltK y x:=by
 unfold ltK
 rw [cmpK_neg x y]
 by_cases h:cmpK y x < 0
 ·rw [decide_eq_true h,decide_eq_false (by omega)];rfl
 ·rw [decide_eq_false h,decide_eq_true (by omega)];rfl
end
end Go.Proofs.YtnoahekcemfmcaaGreatDoor
