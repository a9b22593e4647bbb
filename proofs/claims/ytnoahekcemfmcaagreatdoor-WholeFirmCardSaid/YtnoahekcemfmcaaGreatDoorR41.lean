/- A part of the walk: Tn To. -/
import Derived.Test.YtnoahekcemfmcaaGreatDoorR40
namespace Go.Proofs.YtnoahekcemfmcaaGreatDoor
set_option linter.unusedVariables false
set_option linter.unusedSimpArgs false
set_option maxHeartbeats 80000000
set_option maxRecDepth 100000
section
open Go.RowKit
section
variable {base:Nat} {w w':World} {p tb tc N k:Nat} {T:Nat → Tok} {bu:Int} {tks:List Tk} {hd:List Tok} {sv hv:Value}
theorem flat_snoc {α:Type} (l:List α) (x:α) (f:α → List Value):(l ++ [x]).flatMap f = l.flatMap f ++ f x:=by simp
theorem PW.addh (h:PW base w p tb tc N T k bu tks hd sv hv) {w6:World} {gg cap2:Nat} {t:Tok} (ho:w6.ownsRow base 233 5 (.slice (some ⟨gg,0,none⟩) (hd.length + 1) cap2) (hd.length + 1) (hd.flatMap tokc ++ tokc t)) (hf:Fr (fun q=>hv.ownBlock = some q) w w6) (hg:hv.ownBlock = some gg ∨ w.heap.size ≤ gg) :
  PW base (w6.setCell ⟨p,11,none⟩ (.slice (some ⟨gg,0,none⟩) (hd.length + 1) cap2)) p tb tc N T k bu tks (hd ++ [t]) sv (.slice (some ⟨gg,0,none⟩) (hd.length + 1) cap2) ∧ Fr (fun q=>q = p ∨ base ≤ q) w (w6.setCell ⟨p,11,none⟩ (.slice (some ⟨gg,0,none⟩) (hd.length + 1) cap2)):=by
 have hpb:=h.pb
 have hbl:=h.bl
 have hp:=block_lt h.c0
 have hT:∀ q,q < base → ¬ hv.ownBlock = some q:=fun q hq e=>by have:=ownsRow_block h.own2 q e;omega
 have hgb:=ownsRow_block ho gg rfl
 have c:∀ j,j ≠ 11 → (w6.setCell ⟨p,11,none⟩ (.slice (some ⟨gg,0,none⟩) (hd.length + 1) cap2)).cell? ⟨p,j,none⟩ = w.cell? ⟨p,j,none⟩:=fun j hj=>by
  rw [World.cell?_setCell_other _ _ _ _ (addr_ne (Ne.symm hj))]
  exact hf.cell (p:=⟨p,j,none⟩) hp (hT p hpb)
 have z:∀ j,(w6.setCell ⟨p,11,none⟩ (.slice (some ⟨gg,0,none⟩) (hd.length + 1) cap2)).frozen? ⟨p,j,none⟩ = w.frozen? ⟨p,j,none⟩:=fun j=>by
  rw [World.frozen?_setCell]
  exact hf.frozen (p:=⟨p,j,none⟩) hp (hT p hpb)
 have F:Fr (fun q=>q = p ∨ hv.ownBlock = some q) w (w6.setCell ⟨p,11,none⟩ (.slice (some ⟨gg,0,none⟩) (hd.length + 1) cap2)):=(hf.mono (fun q _ e=>.inr e)).setCell (p:=⟨p,11,none⟩) (.inl rfl) _
 refine ⟨⟨(c 0 (by omega)).trans h.c0,(c 1 (by omega)).trans h.c1,(c 2 (by omega)).trans h.c2,(c 3 (by omega)).trans h.c3,(c 4 (by omega)).trans h.c4,(c 5 (by omega)).trans h.c5,fun j hj=>by rw [c _ (by omega),z];exact h.cb j hj,?_,?_,?_,?_,fun o=>(z o).trans (h.fz o),?_,h.pb,h.tbb,h.ne,Nat.le_trans h.bl F.size,h.cap⟩,F.mono (fun q _ e=>e.imp id (fun e=>ownsRow_block h.own2 q e))⟩
 ·exact World.cell?_setCell_same _ _ _ ((hf.cell (p:=⟨p,11,none⟩) hp (hT p hpb)).trans h.ch)
 ·exact own_fr2 h.own1 F (fun q e=>by
   have h1:=ownsRow_block h.own1 q e
   rintro (e2 | e2)
   ·omega
   ·exact h.ap q e e2)
 ·rw [List.length_append,flat_snoc]
  exact ownsRow_keep ho (fun q hq=>Below.heap_setCell _ _ _ _ (by simp only [Value.ownBlock,Option.some.injEq] at hq;subst hq;show gg ≠ p;omega))
 ·intro q e e2
  simp only [Value.ownBlock,Option.some.injEq] at e2
  subst e2
  rcases hg with hg | hg
  ·exact h.ap gg e hg
  ·have:=ownsRow_lt h.own1 gg e;omega
 ·intro i hi
  exact rg_fr F (Nat.lt_of_lt_of_le h.tbb hbl) (fun e=>e.elim (fun e=>h.ne e) (fun e=>hT tb h.tbb e)) (h.tk i hi)
theorem PW.addt (h:PW base w p tb tc N T k bu tks hd sv hv) {w6:World} {gg cap2:Nat} {t:Tk} (ho:w6.ownsRow base 41 11 (.slice (some ⟨gg,0,none⟩) (tks.length + 1) cap2) (tks.length + 1) (tks.flatMap tkc ++ tkc t)) (hf:Fr (fun q=>sv.ownBlock = some q) w w6) (hg:sv.ownBlock = some gg ∨ w.heap.size ≤ gg) :
  PW base (w6.setCell ⟨p,5,none⟩ (.slice (some ⟨gg,0,none⟩) (tks.length + 1) cap2)) p tb tc N T k bu (tks ++ [t]) hd (.slice (some ⟨gg,0,none⟩) (tks.length + 1) cap2) hv ∧ Fr (fun q=>q = p ∨ base ≤ q) w (w6.setCell ⟨p,5,none⟩ (.slice (some ⟨gg,0,none⟩) (tks.length + 1) cap2)):=by
 have hpb:=h.pb
 have hbl:=h.bl
 have hp:=block_lt h.c0
 have hT:∀ q,q < base → ¬ sv.ownBlock = some q:=fun q hq e=>by have:=ownsRow_block h.own1 q e;omega
 have hgb:=ownsRow_block ho gg rfl
 have c:∀ j,j ≠ 5 → (w6.setCell ⟨p,5,none⟩ (.slice (some ⟨gg,0,none⟩) (tks.length + 1) cap2)).cell? ⟨p,j,none⟩ = w.cell? ⟨p,j,none⟩:=fun j hj=>by
  rw [World.cell?_setCell_other _ _ _ _ (addr_ne (Ne.symm hj))]
  exact hf.cell (p:=⟨p,j,none⟩) hp (hT p hpb)
 have z:∀ j,(w6.setCell ⟨p,5,none⟩ (.slice (some ⟨gg,0,none⟩) (tks.length + 1) cap2)).frozen? ⟨p,j,none⟩ = w.frozen? ⟨p,j,none⟩:=fun j=>by
  rw [World.frozen?_setCell]
  exact hf.frozen (p:=⟨p,j,none⟩) hp (hT p hpb)
 have F:Fr (fun q=>q = p ∨ sv.ownBlock = some q) w (w6.setCell ⟨p,5,none⟩ (.slice (some ⟨gg,0,none⟩) (tks.length + 1) cap2)):=(hf.mono (fun q _ e=>.inr e)).setCell (p:=⟨p,5,none⟩) (.inl rfl) _
 refine ⟨⟨(c 0 (by omega)).trans h.c0,(c 1 (by omega)).trans h.c1,(c 2 (by omega)).trans h.c2,(c 3 (by omega)).trans h.c3,(c 4 (by omega)).trans h.c4,?_,fun j hj=>by rw [c _ (by omega),z];exact h.cb j hj,(c 11 (by omega)).trans h.ch,?_,?_,?_,fun o=>(z o).trans (h.fz o),?_,h.pb,h.tbb,h.ne,Nat.le_trans h.bl F.size,h.cap⟩,F.mono (fun q _ e=>e.imp id (fun e=>ownsRow_block h.own1 q e))⟩
 ·exact World.cell?_setCell_same _ _ _ ((hf.cell (p:=⟨p,5,none⟩) hp (hT p hpb)).trans h.c5)
 ·rw [List.length_append,flat_snoc]
  exact ownsRow_keep ho (fun q hq=>Below.heap_setCell _ _ _ _ (by simp only [Value.ownBlock,Option.some.injEq] at hq;subst hq;show gg ≠ p;omega))
 ·exact own_fr2 h.own2 F (fun q e=>by
   have h1:=ownsRow_block h.own2 q e
   rintro (e2 | e2)
   ·omega
   ·exact h.ap q e2 e)
 ·intro q e e2
  simp only [Value.ownBlock,Option.some.injEq] at e
  subst e
  rcases hg with hg | hg
  ·exact h.ap gg hg e2
  ·have:=ownsRow_lt h.own2 gg e2;omega
 ·intro i hi
  exact rg_fr F (Nat.lt_of_lt_of_le h.tbb hbl) (fun e=>e.elim (fun e=>h.ne e) (fun e=>hT tb h.tbb e)) (h.tk i hi)
def tkOf (T:Nat → Tok) (k:Nat) (m:Nat):Tk:=⟨strOfNums (T (k + 1)).text,(T (k + 2)).value,(T (k + 3)).value,(T (k + 4)).value,(T (k + 6)).value,(T (k + 7)).value,(T (k + 8)).value,(T (k + 9)).value,(T (k + 10)).value,(m:Nat),(T (k + 11)).value⟩
structure IsTask (T:Nat → Tok) (k:Nat) (m:Nat):Prop where
 t0:(T k).kind = 1
 x0:(T k).text = [116,97,115,107]
 t1:(T (k + 1)).kind = 1
 n2:∀ i,i < 3 → (T (k + 2 + i)).kind = 2
 t5:(T (k + 5)).kind = 1
 x5:(T (k + 5)).text = modeT m
 m1:1 ≤ m
 m3:m ≤ 3
 n6:∀ i,i < 6 → (T (k + 6 + i)).kind = 2
 t12:(T (k + 12)).kind = 3
structure TbW (b:Nat) (w:World) (cs:List Value):Prop where
 rg:w.rangeAt b 0 cs
 fz:∀ o,w.frozen? ⟨b,o,none⟩ = false
 lt:b < w.heap.size
theorem TbW.fr {S:Nat → Prop} {b:Nat} {cs:List Value} (h:TbW b w cs) (hf:Fr S w w') (hS:¬ S b):TbW b w' cs :=
 ⟨rg_fr hf h.lt hS h.rg,fun o=>(hf.frozen (p:=⟨b,o,none⟩) h.lt hS).trans (h.fz o),Nat.lt_of_lt_of_le h.lt hf.size⟩
theorem TbW.set {b j:Nat} {cs:List Value} {v:Value} (h:TbW b w cs) (hj:j < cs.length):TbW b (w.setCell ⟨b,j,none⟩ v) (cs.set j v) :=
 ⟨by have:=rg_set (v:=v) h.rg hj;rwa [Nat.zero_add] at this,fun o=>by rw [World.frozen?_setCell];exact h.fz o,by simpa [World.setCell] using h.lt⟩
structure JW (base:Nat) (w:World) (p tb tc N:Nat) (T:Nat → Tok) (k:Nat) (bu:Int) (tks:List Tk) (hd:List Tok) (sv hv:Value) (b:Nat) (cs:List Value):Prop where
 pw:PW base w p tb tc N T k bu tks hd sv hv
 tw:TbW b w cs
 n4:∀ q,sv.ownBlock = some q → q ≠ b
 n5:∀ q,hv.ownBlock = some q → q ≠ b
 bb:base ≤ b
section
variable {b:Nat} {cs:List Value}
theorem JW.below (h:JW base w p tb tc N T k bu tks hd sv hv b cs) (hb:Below w.heap.size w w'):JW base w' p tb tc N T k bu tks hd sv hv b cs :=
 ⟨h.pw.below hb,h.tw.fr (S:=fun _=>False) (Fr.of_below hb) (by simp),h.n4,h.n5,h.bb⟩
theorem JW.step {k':Nat} (h:JW base w p tb tc N T k bu tks hd sv hv b cs) (hp:PW base w' p tb tc N T k' bu tks hd sv hv) (hf:Fr (fun q=>q = p) w w'):JW base w' p tb tc N T k' bu tks hd sv hv b cs :=
 ⟨hp,h.tw.fr hf (by have:=h.bb;have:=hp.pb;omega),h.n4,h.n5,h.bb⟩
theorem JW.set {j:Nat} {v:Value} (h:JW base w p tb tc N T k bu tks hd sv hv b cs) (hj:j < cs.length):JW base (w.setCell ⟨b,j,none⟩ v) p tb tc N T k bu tks hd sv hv b (cs.set j v) ∧ Fr (fun q=>q = p ∨ base ≤ q) w (w.setCell ⟨b,j,none⟩ v):=by
 have hbb:=h.bb
 have h1:=h.pw.pb
 have h2:=h.pw.tbb
 exact ⟨⟨h.pw.fr (S:=fun q=>q = b) ((Fr.refl (· = b) w).setCell (p:=⟨b,j,none⟩) rfl v) (by omega) (by omega) (fun q e=>h.n4 q e) (fun q e=>h.n5 q e),h.tw.set hj,h.n4,h.n5,h.bb⟩,(Fr.refl _ w).setCell (p:=⟨b,j,none⟩) (.inr hbb) v⟩
def setsN (T:Nat → Tok) (k:Nat) (of:Nat → Nat) (cs:List Value):Nat → List Value
 | 0=>cs
 | i + 1=>(setsN T k of cs i).set (of i) (.int .i64 (T (k + i)).value)
theorem setsN_len (T:Nat → Tok) (k:Nat) (of:Nat → Nat) (cs:List Value) (i:Nat):(setsN T k of cs i).length = cs.length:=by
 induction i with
 | zero=>rfl
 | succ i ih=>unfold setsN;rw [List.length_set,ih]
theorem jnumbers_is (of:Nat → Nat) (xb cx m:Nat) (h:JW base w p tb tc N T k bu tks hd sv hv b cs) (h0:0 < m) (hm:m ≤ 100) (hk:k + m < N) (hq:∀ i,i < m → (T (k + i)).kind = 2)
  (hof:∀ i,i < m → of i < cs.length) (hx:∀ i,i < m → w.cell? ⟨xb,i,none⟩ = some (.pointer (some ⟨b,of i,none⟩))) (hx1:xb ≠ p) (hx2:xb ≠ b) :
  Calls Tryz.prog 172 #[.pointer (some ⟨p,0,none⟩),.slice (some ⟨xb,0,none⟩) m cx] w fun e w'=>e = .returned (.tuple #[]) ∧ JW base w' p tb tc N T (k + m) bu tks hd sv hv b (setsN T k of cs m) ∧ Fr (fun q=>q = p ∨ base ≤ q) w w':=by
 refine (numbers_is (base:=base) (p:=p) (tb:=tb) (tc:=tc) (N:=N) (T:=T) (k:=k) (tks:=tks) (hd:=hd) (sv:=sv) (hv:=hv) (fun i w'=>JW base w' p tb tc N T (k + i) bu tks hd sv hv b (setsN T k of cs i) ∧ (∀ i,i < m → w'.cell? ⟨xb,i,none⟩ = some (.pointer (some ⟨b,of i,none⟩))) ∧ Fr (fun q=>q = p ∨ base ≤ q) w w')
  xb cx m (fun i=>⟨b,of i,none⟩) h0 hm hk hq ?_ ⟨h,hx,Fr.refl _ _⟩).mono fun e w' ⟨he,h1,h2,h3⟩=>⟨he,h1,h3⟩
 intro i w1 hi ⟨g1,g2,g3⟩
 refine ⟨bu,g1.pw,g2 i hi,fun w2 hp f=>?_⟩
 have hlt:=hof i hi
 have g4:=g1.step hp f
 obtain ⟨g5,g6⟩:=g4.set (j:=of i) (v:=.int .i64 (T (k + i)).value) (by rw [setsN_len];exact hlt)
 have hc:=g4.tw.rg (of i) _ (List.getElem?_eq_getElem (by rw [setsN_len];exact hlt))
 rw [Nat.zero_add] at hc
 refine ⟨⟨_,hc⟩,g4.tw.fz _,g5,fun j hj=>?_,(g3.trans f (fun _ _ e=>e) (fun _ _ e=>.inl e)).setCell (p:=⟨b,of i,none⟩) (.inr h.bb) _⟩
 rw [World.cell?_setCell_other _ _ _ _ (addr_ne' (Ne.symm hx2))]
 exact (f.cell (p:=⟨xb,j,none⟩) (block_lt (g2 j hj)) (by show ¬ xb = p;exact hx1)).trans (g2 j hj)
end
end
end
section
open Go.RowKit
section
variable {base:Nat} {w w':World} {p tb tc N k:Nat} {T:Nat → Tok} {bu:Int} {tks:List Tk} {hd:List Tok} {sv hv:Value}
theorem one_is (h:PW base w p tb tc N T k bu tks hd sv hv) (hk:k + 13 < N) (m:Nat) (ht:IsTask T k m) (hl1:tks.length ≤ 100) (hl2:hd.length ≤ 100) :
  Calls Tryz.prog 130 #[.pointer (some ⟨p,0,none⟩)] w fun e w'=>e = .returned (.tuple #[]) ∧ (∃ sv' hv',PW base w' p tb tc N T (k + 13) bu (tks ++ [tkOf T k m]) (hd ++ [T k]) sv' hv') ∧ Fr (fun q=>q = p ∨ base ≤ q) w w':=by
 obtain ⟨i0,ki,kz0,kz1,kz2⟩:=info_parts Tryz.info233
 obtain ⟨i1,ki1,kz3,kz4,kz5⟩:=info_parts Tryz.info41
 have hbl:=h.bl
 have hpb:=h.pb
 let Z:Array Value:=#[.string ⟨#[]⟩,.int .i64 0,.int .i64 0,.int .i64 0,.int .i64 0,.int .i64 0,.int .i64 0,.int .i64 0,.int .i64 0,.int .i64 0,.int .i64 0]
 have hbZ:Below w.heap.size w (w.alloc (.cells Z 41)):=bel_alloc (Below.refl _ w) _
 obtain ⟨a9,c9,hhv⟩:=ownsRow_form h.own2
 subst hhv
 have hP:=h.below hbZ
 obtain ⟨w1,hw1⟩:∃ w1,w1 = w.alloc (.cells Z 41):=⟨_,rfl⟩
 have HZ:Hid (TbW w.heap.size w1 Z.toList):=by
  rw [hw1];exact ⟨rg_new _ _ _ _ rfl,fun o=>by simp,by simp⟩
 have HSV:Hid (∀ q,sv.ownBlock = some q → q ≠ w.heap.size):=fun q e=>by have:=ownsRow_lt h.own1 q e;omega
 have HHV:Hid (∀ q,(Value.slice a9 hd.length c9).ownBlock = some q → q < w.heap.size):=fun q e=>ownsRow_lt h.own2 q e
 rw [← hw1] at hP hbZ
 have hown:=hP.own2
 have ch:=hP.ch
 have z11:=hP.fz 11
 have hrl:=block_lt hP.c0
 have hnr:(Value.slice a9 hd.length c9).ownBlock ≠ some p:=fun e=>by have:=ownsRow_block hown p e;omega
 have HN:=Lib.hid (fun q=>now_is (hP.below (bel_drewN (Below.refl _ _) q)) (show k < N by omega))
 have HP:=Lib.hid hP
 have HBZ:Hid (∀ w4,w4.os = w1.os → w4.tape = w1.tape → w4.output = w1.output → w1.heap.size ≤ w4.heap.size → (∀ k,k < w1.heap.size → w4.heap[k]? = w1.heap[k]?) → Below w.heap.size w w4 ∧ w4.frozen? ⟨p,11,none⟩ = false ∧ p < w4.heap.size ∧ PW base w4 p tb tc N T k bu tks hd sv (.slice a9 hd.length c9) ∧ TbW w.heap.size w4 Z.toList):=fun w4 a1 a2 a3 a4 a5=>by
  have hb:Below w1.heap.size w1 w4:=⟨a1,a2,a3,a4,a5⟩
  exact ⟨hbZ.trans (hb.mono hbZ.size),(HP.out.below hb).fz 11,Nat.lt_of_lt_of_le hrl a4,HP.out.below hb,HZ.out.fr (S:=fun _=>False) (Fr.of_below hb) (by simp)⟩
 clear hP h
 go_enter Tryz.func130,Tryz.ntmps130
 go_wp2_with fail
 rw [← hw1]
 clear hw1
 go_cut [] (fun wx=>Hid (∃ hv2,PW base wx p tb tc N T k bu tks (hd ++ [T k]) sv hv2 ∧ Fr (fun q=>q = p ∨ base ≤ q) w wx ∧ TbW w.heap.size wx Z.toList ∧ (∀ q,sv.ownBlock = some q → q ≠ w.heap.size) ∧ (∀ q,hv2.ownBlock = some q → q ≠ w.heap.size)))
 case first =>
  unfold tokc at HN
  go_region_law (first | (go_simp;go_at_call 129;refine Calls.mono (by first | exact HN.out _ | exact HN.out 1 | exact HN.out 0) ?_;rintro e w4 ⟨rfl,hb4⟩;have ch4:=cell_bel hb4 ch;have hb5:=HBZ.out _ hb4.os hb4.tape hb4.output hb4.size hb4.block;have hs4:=Nat.le_trans hbl hb5.1.size;have z4:=hb5.2.1;have hr4:=hb5.2.2.1;have HB5:=Lib.hid hb5;clear hb5) | (refine step_append_lies _ (by rfl) _ _ _ (by rfl) base 233 i0 _ 5 48 Tryz.underlying228 ki kz0 kz1 kz2 rfl (by omega) _ _ _ (by rfl) ((ownsRow_keep hown (fun q hq=>hb4.block q (ownsRow_lt hown q hq))).alloc _) ⟨w4.heap.size,0,none⟩ 1 1 (tokc (T k)) (by rfl) (by rfl) (World.news_of_block (cs:=(tokc (T k)).toArray) (t:=233) (fr:=(0,0)) (heap_alloc_new w4 _)) (tokc_one _) (by omega) (by unfold maxLen;omega) (by omega) (by simp;omega) (w4.heap.size + 1) (by simp) ?_;intro gg cap2 w6 hown6 hgrow hat hlt;have G6:=grown_keep (w:=w4) (p:=p) hgrow (by repeat (first | exact Fr.refl _ _ | refine Fr.alloc ?_ _ | refine Fr.drew ?_ | refine Fr.drewN ?_ _)) hr4 hnr 11;have cv6:=G6.1.trans ch4;have fv6:=G6.2.trans z4;clear G6))
  all_goals
   have hF6:Fr (fun q=>(Value.slice a9 hd.length c9).ownBlock = some q) w4 w6:=Fr.grown (by repeat (first | exact Fr.refl _ _ | refine Fr.alloc ?_ _ | refine Fr.drew ?_ | refine Fr.drewN ?_ _)) hgrow (fun g e _=>e)
   obtain ⟨g1,g2⟩:=HB5.out.2.2.2.1.addh (t:=T k) hown6 hF6 (hat.imp id (fun e=>by omega))
   have g3:TbW w.heap.size (w6.setCell ⟨p,11,none⟩ (.slice (some ⟨gg,0,none⟩) (hd.length + 1) cap2)) Z.toList:=HB5.out.2.2.2.2.fr (S:=fun q=>q = p ∨ (Value.slice a9 hd.length c9).ownBlock = some q) ((hF6.mono (fun q _ e=>.inr e)).setCell (p:=⟨p,11,none⟩) (.inl rfl) _) (by
    rintro (e | e)
    ·omega
    ·have:=HHV.out _ e;omega)
   have g4:∀ q,(Value.slice (some ⟨gg,0,none⟩) (hd.length + 1) cap2).ownBlock = some q → q ≠ w.heap.size:=fun q e=>by
    simp only [Value.ownBlock,Option.some.injEq] at e
    subst e
    rcases hat with e | e
    ·have:=HHV.out _ e;omega
    ·have:=HB5.out.1.size;omega
   have G:=Lib.hid (And.intro g1 (And.intro ((Fr.of_below (S:=fun q=>q = p ∨ base ≤ q) HB5.out.1).trans g2 (U:=fun q=>q = p ∨ base ≤ q) (fun _ _ e=>e) (fun _ _ e=>e)) (And.intro g3 g4)))
   clear g1 g2 g3 g4 hF6 hgrow hown6 cv6 fv6 hat
   (try go_wp2_with fail)
   go_meet
   case rel=>exact ⟨_,G.out.1,G.out.2.1,G.out.2.2.1,HSV.out,G.out.2.2.2⟩
 clear HHV HBZ HZ hown ch z11 hrl hnr HN HP hbZ
 obtain ⟨hv2,k1,k2,k3,k4,k5⟩:=hcut.out
 clear hcut
 have K2:=Lib.hid k2
 have KJ:Hid (JW base wc p tb tc N T k bu tks (hd ++ [T k]) sv hv2 w.heap.size Z.toList):=⟨k1,k3,k4,k5,hbl⟩
 clear k1 k2 k3 k4 k5 HSV
 obtain ⟨b,hb⟩:∃ b,w.heap.size = b:=⟨_,rfl⟩
 rw [hb] at KJ ⊢
 have hbb:base ≤ b:=by omega
 have hpb':p < b:=by omega
 obtain ⟨Z1,hZ1⟩:∃ Z1,Z1 = Z.toList.set 0 (.string (strOfNums (T (k + 1)).text)):=⟨_,rfl⟩
 obtain ⟨Z2,hZ2⟩:∃ Z2,Z2 = setsN T (k + 2) (fun i=>i + 1) Z1 3:=⟨_,rfl⟩
 obtain ⟨Z3,hZ3⟩:∃ Z3,Z3 = Z2.set 9 (.int .i64 m):=⟨_,rfl⟩
 obtain ⟨Z4,hZ4⟩:∃ Z4,Z4 = setsN T (k + 6) (fun i=>if i = 5 then 10 else i + 4) Z3 6:=⟨_,rfl⟩
 have hl0:Z.toList.length = 11:=rfl
 have hl1:Z1.length = 11:=by rw [hZ1,List.length_set];rfl
 have hl2:Z2.length = 11:=by rw [hZ2,setsN_len,hl1]
 have hl3:Z3.length = 11:=by rw [hZ3,List.length_set,hl2]
 have hZt:Z4 = tkc (tkOf T k m):=by rw [hZ4,hZ3,hZ2,hZ1];rfl
 have HT1:Hid (∀ w1,JW base w1 p tb tc N T k bu tks (hd ++ [T k]) sv hv2 b Z.toList → Calls Tryz.prog 171 #[.pointer (some ⟨p,0,none⟩),.int .i64 1,.slice (some ⟨w1.heap.size,0,none⟩) 1 1] (w1.alloc (.cells #[.string ⟨#[116,97,115,107]⟩] 9)) fun e w'=>e = .returned (.agg (tokc (T k)).toArray) ∧ JW base w' p tb tc N T (k + 1) bu tks (hd ++ [T k]) sv hv2 b Z.toList ∧ Fr (fun q=>q = p ∨ base ≤ q) w1 w'):=fun w1 h=>by
  have hbA:Below w1.heap.size w1 (w1.alloc (.cells #[.string ⟨#[116,97,115,107]⟩] 9)):=bel_alloc (Below.refl _ w1) _
  refine (take_some (h.pw.below hbA) (by omega) 1 w1.heap.size 1 1 (fun _=>⟨#[116,97,115,107]⟩) (by omega) (by omega) (fun j hj=>by { have hj0:j = 0:=(by omega);subst hj0;exact cell_newb _ _ _ _ 0 _ rfl rfl }) ht.t0 ⟨0,by omega,by rw [ht.x0];rfl,fun j hj=>by omega⟩).mono fun e w' ⟨a,c,f⟩=>⟨a,(h.below hbA).step c f,(Fr.of_below (S:=fun q=>q = p ∨ base ≤ q) hbA).trans f (fun _ _ e=>e) (fun _ _ e=>.inl e)⟩
 have HT2:Hid (∀ w1,JW base w1 p tb tc N T (k + 1) bu tks (hd ++ [T k]) sv hv2 b Z.toList → Calls Tryz.prog 171 #[.pointer (some ⟨p,0,none⟩),.int .i64 1,.slice none 0 0] w1 fun e w'=>e = .returned (.agg #[.int .i64 (T (k + 1)).kind,.string (strOfNums (T (k + 1)).text),.int .i64 (T (k + 1)).value,.int .i64 (T (k + 1)).line,.int .i64 (T (k + 1)).col]) ∧ JW base w' p tb tc N T (k + 2) bu tks (hd ++ [T k]) sv hv2 b Z.toList ∧ Fr (fun q=>q = p ∨ base ≤ q) w1 w'):=fun w1 h =>
  (take_none h.pw (by omega) 1 ht.t1).mono fun e w' ⟨a,c,f⟩=>⟨a,h.step c f,f.mono (fun _ _ e=>.inl e)⟩
 have HN3:Hid (∀ w1 xb,xb = w1.heap.size → JW base w1 p tb tc N T (k + 2) bu tks (hd ++ [T k]) sv hv2 b Z1 → Calls Tryz.prog 172 #[.pointer (some ⟨p,0,none⟩),.slice (some ⟨xb,0,none⟩) 3 3] (w1.alloc (.cells #[.pointer (some ⟨b,1,none⟩),.pointer (some ⟨b,2,none⟩),.pointer (some ⟨b,3,none⟩)] 271)) fun e w'=>e = .returned (.tuple #[]) ∧ JW base w' p tb tc N T (k + 5) bu tks (hd ++ [T k]) sv hv2 b Z2 ∧ Fr (fun q=>q = p ∨ base ≤ q) w1 w'):=fun w1 xb hxb h=>by
  subst hxb
  have hbA:Below w1.heap.size w1 (w1.alloc (.cells #[.pointer (some ⟨b,1,none⟩),.pointer (some ⟨b,2,none⟩),.pointer (some ⟨b,3,none⟩)] 271)):=bel_alloc (Below.refl _ w1) _
  have h1:=h.pw.bl
  have h2:=h.tw.lt
  refine (jnumbers_is (fun i=>i + 1) w1.heap.size 3 3 (h.below hbA) (by omega) (by omega) (by omega) ht.n2 (fun i hi=>by rw [hl1];omega) (fun i hi=>by
   have:i = 0 ∨ i = 1 ∨ i = 2:=by omega
   rcases this with rfl | rfl | rfl <;> exact cell_newb _ _ _ _ _ _ rfl rfl) (by omega) (by omega)).mono fun e w' ⟨a,c,f⟩=>⟨a,by rw [hZ2];exact c,(Fr.of_below (S:=fun q=>q = p ∨ base ≤ q) hbA).trans f (fun _ _ e=>e) (fun _ _ e=>e)⟩
 have HT5:Hid (∀ w1,JW base w1 p tb tc N T (k + 5) bu tks (hd ++ [T k]) sv hv2 b Z2 → Calls Tryz.prog 171 #[.pointer (some ⟨p,0,none⟩),.int .i64 1,.slice (some ⟨w1.heap.size,0,none⟩) 3 3] (w1.alloc (.cells #[.string ⟨#[114,101,116,114,121]⟩,.string ⟨#[98,108,111,99,107]⟩,.string ⟨#[98,97,99,107,117,112]⟩] 9)) fun e w'=>e = .returned (.agg #[.int .i64 (T (k + 5)).kind,.string (strOfNums (modeT m)),.int .i64 (T (k + 5)).value,.int .i64 (T (k + 5)).line,.int .i64 (T (k + 5)).col]) ∧ JW base w' p tb tc N T (k + 6) bu tks (hd ++ [T k]) sv hv2 b Z2 ∧ Fr (fun q=>q = p ∨ base ≤ q) w1 w'):=fun w1 h=>by
  have hbA:Below w1.heap.size w1 (w1.alloc (.cells #[.string ⟨#[114,101,116,114,121]⟩,.string ⟨#[98,108,111,99,107]⟩,.string ⟨#[98,97,99,107,117,112]⟩] 9)):=bel_alloc (Below.refl _ w1) _
  have hm1:=ht.m1
  have hm3:=ht.m3
  refine (take_some (h.pw.below hbA) (by omega) 1 w1.heap.size 3 3 (fun j=>strOfNums (modeT (j + 1))) (by omega) (by omega) (fun j hj=>by
   have:j = 0 ∨ j = 1 ∨ j = 2:=by omega
   rcases this with rfl | rfl | rfl <;> exact cell_newb _ _ _ _ _ _ rfl rfl) ht.t5 ⟨m - 1,by omega,by rw [ht.x5,show m - 1 + 1 = m by omega],fun j hj=>by
    rw [ht.x5]
    have:m = 1 ∨ m = 2 ∨ m = 3:=by omega
    rcases this with rfl | rfl | rfl
    ·omega
    ·obtain rfl:j = 0:=by omega
     decide +kernel
    ·have:j = 0 ∨ j = 1:=by omega
     rcases this with rfl | rfl <;> decide +kernel⟩).mono fun e w' ⟨a,c,f⟩=>⟨by rw [a];unfold tokc;rw [ht.x5],(h.below hbA).step c f,(Fr.of_below (S:=fun q=>q = p ∨ base ≤ q) hbA).trans f (fun _ _ e=>e) (fun _ _ e=>.inl e)⟩
 have HM:=Lib.hid (fun w=>pmode_is m w ht.m1 ht.m3)
 have HN6:Hid (∀ w1 xb,xb = w1.heap.size → JW base w1 p tb tc N T (k + 6) bu tks (hd ++ [T k]) sv hv2 b Z3 → Calls Tryz.prog 172 #[.pointer (some ⟨p,0,none⟩),.slice (some ⟨xb,0,none⟩) 6 6] (w1.alloc (.cells #[.pointer (some ⟨b,4,none⟩),.pointer (some ⟨b,5,none⟩),.pointer (some ⟨b,6,none⟩),.pointer (some ⟨b,7,none⟩),.pointer (some ⟨b,8,none⟩),.pointer (some ⟨b,10,none⟩)] 271)) fun e w'=>e = .returned (.tuple #[]) ∧ JW base w' p tb tc N T (k + 12) bu tks (hd ++ [T k]) sv hv2 b Z4 ∧ Fr (fun q=>q = p ∨ base ≤ q) w1 w'):=fun w1 xb hxb h=>by
  subst hxb
  have hbA:Below w1.heap.size w1 (w1.alloc (.cells #[.pointer (some ⟨b,4,none⟩),.pointer (some ⟨b,5,none⟩),.pointer (some ⟨b,6,none⟩),.pointer (some ⟨b,7,none⟩),.pointer (some ⟨b,8,none⟩),.pointer (some ⟨b,10,none⟩)] 271)):=bel_alloc (Below.refl _ w1) _
  have h1:=h.pw.bl
  have h2:=h.tw.lt
  refine (jnumbers_is (fun i=>if i = 5 then 10 else i + 4) w1.heap.size 6 6 (h.below hbA) (by omega) (by omega) (by omega) ht.n6 (fun i hi=>by rw [hl3];split <;> omega) (fun i hi=>by
   have:i = 0 ∨ i = 1 ∨ i = 2 ∨ i = 3 ∨ i = 4 ∨ i = 5:=by omega
   rcases this with rfl | rfl | rfl | rfl | rfl | rfl <;> exact cell_newb _ _ _ _ _ _ rfl rfl) (by omega) (by omega)).mono fun e w' ⟨a,c,f⟩=>⟨a,by rw [hZ4];exact c,(Fr.of_below (S:=fun q=>q = p ∨ base ≤ q) hbA).trans f (fun _ _ e=>e) (fun _ _ e=>e)⟩
 have HE:Hid (∀ w1,JW base w1 p tb tc N T (k + 12) bu tks (hd ++ [T k]) sv hv2 b Z4 → Calls Tryz.prog 173 #[.pointer (some ⟨p,0,none⟩)] w1 fun e w'=>e = .returned (.tuple #[]) ∧ JW base w' p tb tc N T (k + 13) bu tks (hd ++ [T k]) sv hv2 b Z4 ∧ Fr (fun q=>q = p ∨ base ≤ q) w1 w'):=fun w1 h =>
  (end_is h.pw (by omega) ht.t12).mono fun e w' ⟨a,c,f⟩=>⟨a,h.step c f,f.mono (fun _ _ e=>.inl e)⟩
 have HZ1:=Lib.hid hZ1
 have HZ3:=Lib.hid hZ3
 have HZT:=Lib.hid hZt
 have hf1:=fld1
 clear hZ1 hZ2 hZ3 hZ4 hZt ht hb
 clear_value Z
 go_wp2_with (first
  |(go_at_call 171;refine (HT1.out _ KJ.out).mono ?_;rintro e w1 ⟨rfl,j1,f1⟩;have J1:=Lib.hid j1;have F1:=Lib.hid f1;clear j1 f1 HT1)
  |(go_at_call 171;refine (HT2.out _ J1.out).mono ?_;rintro e w2 ⟨rfl,j2,f2⟩
    have J3:Hid (JW base (w2.setCell ⟨b,0,none⟩ (.string (strOfNums (T (k + 1)).text))) p tb tc N T (k + 2) bu tks (hd ++ [T k]) sv hv2 b Z1):=by rw [HZ1.out];exact (j2.set (by rw [hl0];omega)).1
    have x0:=j2.tw.rg 0 _ (List.getElem?_eq_getElem (by rw [hl0];omega))
    rw [Nat.zero_add] at x0
    have z0:=j2.tw.fz 0
    have F2:=Lib.hid (f2.setCell (p:=⟨b,0,none⟩) (.inr hbb) (.string (strOfNums (T (k + 1)).text)))
    clear j2 f2 HT2)
  |(go_at_call 172;refine (HN3.out (w2.setCell ⟨b,0,none⟩ (.string (strOfNums (T (k + 1)).text))) w2.heap.size (by simp [World.setCell]) J3.out).mono ?_;rintro e w4 ⟨rfl,j4,f4⟩;have J4:=Lib.hid j4;have F4:=Lib.hid f4;clear j4 f4 HN3)
  |(go_at_call 171;refine (HT5.out _ J4.out).mono ?_;rintro e w5 ⟨rfl,j5,f5⟩;have J5:=Lib.hid j5;have F5:=Lib.hid f5;clear j5 f5 HT5)
  |(go_at_call 174;refine (HM.out _).mono ?_;rintro e w6 ⟨rfl,g6⟩
    have j6:=J5.out.below g6.below
    have J7:Hid (JW base (w6.setCell ⟨b,9,none⟩ (.int .i64 m)) p tb tc N T (k + 6) bu tks (hd ++ [T k]) sv hv2 b Z3):=by rw [HZ3.out];exact (j6.set (by rw [hl2];omega)).1
    have x9:=j6.tw.rg 9 _ (List.getElem?_eq_getElem (by rw [hl2];omega))
    rw [Nat.zero_add] at x9
    have z9:=j6.tw.fz 9
    have F6:=Lib.hid ((Fr.of_below (S:=fun q=>q = p ∨ base ≤ q) g6.below).setCell (p:=⟨b,9,none⟩) (.inr hbb) (.int .i64 m))
    clear j6 g6)
  |(go_at_call 172;refine (HN6.out (w6.setCell ⟨b,9,none⟩ (.int .i64 m)) w6.heap.size (by simp [World.setCell]) J7.out).mono ?_;rintro e w8 ⟨rfl,j8,f8⟩;have J8:=Lib.hid j8;have F8:=Lib.hid f8;clear j8 f8 HN6)
  |(go_at_call 173;refine (HE.out _ J8.out).mono ?_;rintro e w9 ⟨rfl,j9,f9⟩;have J9:=Lib.hid j9;have F9:=Lib.hid f9;clear j9 f9 HE))
 obtain ⟨t,htk⟩:∃ t,tkOf T k m = t:=⟨_,rfl⟩
 have hj:=J9.out
 rw [HZT.out,htk] at hj
 obtain ⟨ax,cs9,hsv⟩:=ownsRow_form hj.pw.own1
 subst hsv
 have q0:=hj.tw.rg 0 _ rfl
 have q1:=hj.tw.rg 1 _ rfl
 have q2:=hj.tw.rg 2 _ rfl
 have q3:=hj.tw.rg 3 _ rfl
 have q4:=hj.tw.rg 4 _ rfl
 have q5:=hj.tw.rg 5 _ rfl
 have q6:=hj.tw.rg 6 _ rfl
 have q7:=hj.tw.rg 7 _ rfl
 have q8:=hj.tw.rg 8 _ rfl
 have q9:=hj.tw.rg 9 _ rfl
 have q10:=hj.tw.rg 10 _ rfl
 simp only [Nat.zero_add] at q0 q1 q2 q3 q4 q5 q6 q7 q8 q9 q10
 have c5:=hj.pw.c5
 have z5:=hj.pw.fz 5
 have hown9:=hj.pw.own1
 have hrl9:=block_lt hj.pw.c0
 have hbl9:=hj.pw.bl
 have hnr9:(Value.slice ax tks.length cs9).ownBlock ≠ some p:=fun e=>by have:=ownsRow_block hown9 p e;omega
 have HJ:=Lib.hid hj
 have HTK:=Lib.hid htk
 have FA:=Lib.hid ((((((((K2.out.trans F1.out (U:=fun q=>q = p ∨ base ≤ q) (fun _ _ e=>e) (fun _ _ e=>e)).trans F2.out (U:=fun q=>q = p ∨ base ≤ q) (fun _ _ e=>e) (fun _ _ e=>e)).trans F4.out (U:=fun q=>q = p ∨ base ≤ q) (fun _ _ e=>e) (fun _ _ e=>e)).trans F5.out (U:=fun q=>q = p ∨ base ≤ q) (fun _ _ e=>e) (fun _ _ e=>e)).trans F6.out (U:=fun q=>q = p ∨ base ≤ q) (fun _ _ e=>e) (fun _ _ e=>e)).trans F8.out (U:=fun q=>q = p ∨ base ≤ q) (fun _ _ e=>e) (fun _ _ e=>e)).trans F9.out (U:=fun q=>q = p ∨ base ≤ q) (fun _ _ e=>e) (fun _ _ e=>e)))
 clear hj htk F1 F2 F4 F5 F6 F8 F9 K2 J1 J3 J4 J5 J7 J8 J9 HM HZ1 HZ3 HZT KJ x0 z0 x9 z9 hl0 hl1 hl2 hl3 hf1
 go_region_law (first | (refine step_append_lies _ (by rfl) _ _ _ (by rfl) base 41 i1 _ 11 96 Tryz.underlying22 ki1 kz3 kz4 kz5 rfl (by omega) _ _ _ (by rfl) ((ownsRow_keep hown9 (fun q hq=>by rfl)).alloc _) ⟨w9.heap.size,0,none⟩ 1 1 (tkc t) (by rfl) (by rfl) (World.news_of_block (cs:=(tkc t).toArray) (t:=41) (fr:=(0,0)) (heap_alloc_new w9 _)) (by simp [tkc,Value.oneCell']) (by omega) (by unfold maxLen;omega) (by omega) (by simp;omega) (w9.heap.size + 1) (by simp) ?_;intro gg cap2 w10 hown10 hgrow hat hlt;have G6:=grown_keep (w:=w9) (p:=p) hgrow (by repeat (first | exact Fr.refl _ _ | refine Fr.alloc ?_ _ | refine Fr.drew ?_ | refine Fr.drewN ?_ _)) hrl9 hnr9 5;have cv10:=G6.1.trans c5;have fv10:=G6.2.trans z5;clear G6))
 all_goals
  have hF6:Fr (fun q=>(Value.slice ax tks.length cs9).ownBlock = some q) w9 w10:=Fr.grown (by repeat (first | exact Fr.refl _ _ | refine Fr.alloc ?_ _ | refine Fr.drew ?_ | refine Fr.drewN ?_ _)) hgrow (fun g e _=>e)
  obtain ⟨g1,g2⟩:=HJ.out.pw.addt (t:=t) hown10 hF6 (hat.imp id (fun e=>by omega))
  clear hgrow hown10 hF6 cv10 fv10 hat q0 q1 q2 q3 q4 q5 q6 q7 q8 q9 q10 c5 z5 hown9
  go_wp2_with fail
  go_end0
  exact ⟨rfl,⟨_,_,by rw [HTK.out];exact g1⟩,FA.out.trans g2 (fun _ _ e=>e) (fun _ _ e=>e)⟩
end
end
end Go.Proofs.YtnoahekcemfmcaaGreatDoor
