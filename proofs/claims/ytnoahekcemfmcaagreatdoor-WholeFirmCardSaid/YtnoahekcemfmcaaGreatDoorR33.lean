/- A part of the walk: Vd. -/
import Derived.Test.YtnoahekcemfmcaaGreatDoorR28
import Derived.Test.YtnoahekcemfmcaaGreatDoorR32
namespace Go.Proofs.YtnoahekcemfmcaaGreatDoor
set_option linter.unusedVariables false
set_option linter.unusedSimpArgs false
set_option maxHeartbeats 80000000
set_option maxRecDepth 100000
section
open Go.RowKit
def intsV (l:List Int):List Value:=l.map fun x=>.int .i64 x
structure PV (B bp:Nat) (xs:List Int) (pv:Value) (w:World):Prop where
 c:w.cell? ⟨bp,0,none⟩ = some pv
 z:w.frozen? ⟨bp,0,none⟩ = false
 o:w.ownsRow B 3 1 pv xs.length (intsV xs)
 ne:¬ pv.ownBlock = some bp
theorem PV.keep {T:Nat → Prop} {B bp:Nat} {xs:List Int} {pv:Value} {w w':World} (h:PV B bp xs pv w) (hf:Fr T w w') (h1:¬ T bp) (h2:∀ q,pv.ownBlock = some q → ¬ T q):PV B bp xs pv w' :=
 ⟨(hf.cell (p:=⟨bp,0,none⟩) (block_lt h.c) h1).trans h.c,(hf.frozen (p:=⟨bp,0,none⟩) (block_lt h.c) h1).trans h.z,own_fr2 h.o hf h2,h.ne⟩
theorem PV.below {B bp:Nat} {xs:List Int} {pv:Value} {w w':World} (h:PV B bp xs pv w) (hb:Below w.heap.size w w'):PV B bp xs pv w':=h.keep (T:=fun _=>False) (Fr.of_below hb) (fun t=>t) (fun _ _ t=>t)
theorem padd_is (B bp:Nat) (xs:List Int) (pv:Value) (x y:Int) (w:World) (h:PV B bp xs pv w) (hB:B ≤ w.heap.size) (hk:xs.length ≤ 100) (hx:0 ≤ x) (hx2:x ≤ 2147483648) (hy:0 ≤ y) (hy2:y ≤ 2147483648) :
  Calls Tryz.prog 115 #[.int .i64 x,.int .i64 y,.pointer (some ⟨bp,0,none⟩)] w fun e w'=>e = .returned (.bool true) ∧ ∃ pv',PV B bp (xs ++ [x * y]) pv' w' ∧ Fr (fun q=>q = bp ∨ pv.ownBlock = some q) w w':=by
 have HP:=Lib.hid h
 obtain ⟨ap,cp,rfl⟩:=ownsRow_form h.o
 have hc:=h.c
 have hz:=h.z
 have hl:bp < w.heap.size:=block_lt hc
 have HM:=Lib.hid (fun w=>mul_any x y w hx hy hx2 hy2)
 obtain ⟨i3,ki3,kz31,kz32,kz33⟩:=info_parts Tryz.info3
 obtain ⟨m,hm⟩:∃ m,x * y = m:=⟨_,rfl⟩
 rw [hm] at HM ⊢
 clear h hm
 go_enter Tryz.func115,Tryz.ntmps115
 go_wp2_with (first | (go_at_call 116;refine (HM.out _).mono ?_;rintro e w' ⟨rfl,rfl⟩) | (at_builtin;refine wpList_append_row rfl _ _ 28 rfl B 3 i3 _ 1 8 Tryz.underlying28 ki3 kz31 kz32 kz33 rfl (by omega) (.slice ap xs.length cp) xs.length (intsV xs) rfl (own_fr2 HP.out.o (Fr.of_below (S:=fun _=>False) (bel_alloc (Below.refl _ _) _)) (fun _ _ t=>t)) (.slice (some ⟨w.heap.size,0,none⟩) 1 1) 1 [.int .i64 m] rfl rfl (.inr ⟨⟨w.heap.size,0,none⟩,1,rfl,fun j u hu=>by obtain ⟨rfl,rfl⟩:=one_of hu;rw [add_none];exact cell_newb _ _ _ _ 0 _ rfl rfl⟩) (by simp [Value.oneCell']) (by unfold maxLen;omega) (by omega) (by simp;omega) ?_;intro v7 w7 own7 gr7 at7;obtain ⟨a7,c7,h7⟩:=ownsRow_form own7;subst h7;have hf7:Fr (fun q=>(Value.slice ap xs.length cp).ownBlock = some q) w w7:=Fr.grown ((Fr.refl _ w).alloc _) gr7 (fun g e _=>e);have hc7:=(hf7.cell (p:=⟨bp,0,none⟩) hl HP.out.ne).trans hc;have hz7:=(hf7.frozen (p:=⟨bp,0,none⟩) hl HP.out.ne).trans hz;have hl7:bp < w7.heap.size:=block_lt hc7;have HO7:=Lib.hid own7;have HA7:=Lib.hid at7;clear own7 at7 gr7))
 go_ret
 have hfx:Fr (fun q=>q = bp) w7 (w7.setCell ⟨bp,0,none⟩ (.slice a7 (xs.length + 1) c7)):=(Fr.refl (fun q=>q = bp) w7).setCell (p:=⟨bp,0,none⟩) rfl _
 have hnb:¬ (Value.slice a7 (xs.length + 1) c7).ownBlock = some bp:=fun e=>by
  rcases HA7.out with t | t
  ·rw [t] at e;exact HP.out.ne e
  ·rw [t] at e
   simp at e
   omega
 refine ⟨rfl,_,⟨World.cell?_setCell_same _ _ _ hc7,by rw [World.frozen?_setCell];exact hz7,?_,hnb⟩,(hf7.mono (T:=fun q=>q = bp ∨ (Value.slice ap xs.length cp).ownBlock = some q) (fun _ _ t=>.inr t)).setCell (p:=⟨bp,0,none⟩) (.inl rfl) _⟩
 have e1:intsV (xs ++ [m]) = intsV xs ++ [.int .i64 m]:=by simp [intsV]
 have e2:(xs ++ [m]).length = xs.length + 1:=by simp
 rw [e1,e2]
 exact own_fr2 HO7.out hfx (fun q e t=>hnb (by rw [e,t]))
end
end Go.Proofs.YtnoahekcemfmcaaGreatDoor
