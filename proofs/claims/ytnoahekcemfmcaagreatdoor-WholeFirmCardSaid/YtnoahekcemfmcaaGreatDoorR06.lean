/- A part of the walk: Pf Pu5 Pu6 Pu7. -/
import Derived.Test.YtnoahekcemfmcaaGreatDoorR05
import Derived.Deep.RegionHeld3
namespace Go.Proofs.YtnoahekcemfmcaaGreatDoor
set_option linter.unusedVariables false
set_option linter.unusedSimpArgs false
set_option maxHeartbeats 80000000
set_option maxRecDepth 100000
section
open Go.RowKit
attribute [local go_sem ↓] Go.wp_at_zero Go.wp_at_succ
theorem parts_fr (t:Tk) (ht:t.Ok) (d:Int) (w:World) (h1:1 ≤ d) (h2:d ≤ t.C) :
  Calls Tryz.prog 144 #[tkv t,.int .i64 d] w fun e w'=>∃ (a:Option Addr) (c:Nat),e = .returned (.slice a (partsT t d).length c) ∧ IntsIn w'.heap.size w' a (partsT t d).length (partsT t d) ∧ Below w.heap.size w w' ∧ (∀ b,(Value.slice a (partsT t d).length c).ownBlock = some b → w.heap.size ≤ b):=by
 have h0:=ht.k0
 have h01:=ht.k1
 have h3:=ht.cd
 have h4:=ht.dt
 have h5:=ht.tm
 have hnp:=np_pos ht h1
 have hnl:=np_le ht h1
 have hdb:decide (d < 1) = false:=decide_eq_false (by omega)
 have hdc:decide (t.C < d) = false:=decide_eq_false (by omega)
 obtain ⟨i0,ki,kz0,kz1,kz2⟩:=info_parts Tryz.info3
 by_cases hm:t.Mode = 1
 ·obtain ⟨h6,h7,h8⟩:=ht.r1 hm
  have HP:Hid (∀ k:Nat,(k:Int) < np t d → (k:Int) * t.Seg < d ∧ (partsT t d).take (k + 1) = (partsT t d).take k ++ [min (d - (k:Int) * t.Seg) t.Seg + t.Cost]):=fun k hk=>by
   refine ⟨part_lt ht hm hk,?_⟩
   rw [List.take_succ_eq_append_getElem (by rw [partsT_length];omega),partsT_at]
   unfold plen;rw [if_pos hm]
  have HE:Hid (∀ k:Nat,np t d ≤ (k:Int) → d ≤ (k:Int) * t.Seg):=fun k hk=>part_ge ht hm hk
  have hpl:=partsT_length t d
  have hmb:(t.Mode == 1) = true:=by simpa using hm
  have hc5:=cell_newb w #[.string t.nm,.int .i64 t.T,.int .i64 t.D,.int .i64 t.C,.int .i64 t.A,.int .i64 t.Seg,.int .i64 t.Cost,.int .i64 t.M,.int .i64 t.K,.int .i64 t.Mode,.int .i64 t.Prio] 41 _ 5 _ rfl rfl
  have hc6:=cell_newb w #[.string t.nm,.int .i64 t.T,.int .i64 t.D,.int .i64 t.C,.int .i64 t.A,.int .i64 t.Seg,.int .i64 t.Cost,.int .i64 t.M,.int .i64 t.K,.int .i64 t.Mode,.int .i64 t.Prio] 41 _ 6 _ rfl rfl
  have hbw:=bel_alloc (Below.refl w.heap.size w) (.cells #[.string t.nm,.int .i64 t.T,.int .i64 t.D,.int .i64 t.C,.int .i64 t.A,.int .i64 t.Seg,.int .i64 t.Cost,.int .i64 t.M,.int .i64 t.K,.int .i64 t.Mode,.int .i64 t.Prio] 41)
  have hwl:w.heap.size < (w.alloc (.cells #[.string t.nm,.int .i64 t.T,.int .i64 t.D,.int .i64 t.C,.int .i64 t.A,.int .i64 t.Seg,.int .i64 t.Cost,.int .i64 t.M,.int .i64 t.K,.int .i64 t.Mode,.int .i64 t.Prio] 41)).heap.size:=by simp
  clear hm h8
  unfold tkv
  go_enter Tryz.func144,Tryz.ntmps144
  go_wp2_with fail
  generalize w.alloc (.cells #[.string t.nm,.int .i64 t.T,.int .i64 t.D,.int .i64 t.C,.int .i64 t.A,.int .i64 t.Seg,.int .i64 t.Cost,.int .i64 t.M,.int .i64 t.K,.int .i64 t.Mode,.int .i64 t.Prio] 41) = w1 at *
  have hb0:Below w1.heap.size w1 w1:=Below.refl _ _
  go_loopw [1,5] (fun sd so wx=>∃ k:Nat,(k:Int) ≤ np t d ∧ sd = .int .i64 (d - (k:Int) * t.Seg) ∧ Hid (wx.ownsRow w1.heap.size 3 1 so k (((partsT t d).take k).map ic)) ∧ Below w1.heap.size w1 wx ∧ 0 ≤ (k:Int) * t.Seg) (fun sd _ _=>(intOf sd).toNat)
  case atStart=>exact ⟨0,by omega,by simp,World.ownsRow_nil _ _ _ _,hb0,by simp⟩
  case round =>
   clear hb0
   obtain ⟨k,hk,rfl,HO,hb,hk0⟩:=hrel
   by_cases hlt:(k:Int) < np t d
   ·obtain ⟨h9,h10⟩:=HP.out k hlt
    have H10:=Lib.hid h10
    have hks:((k + 1:Nat):Int) * t.Seg = (k:Int) * t.Seg + t.Seg:=by rw [Int.natCast_succ,Int.add_mul,Int.one_mul]
    have HKS:=Lib.hid hks
    have hgt:decide (d - (k:Int) * t.Seg > 0) = true:=decide_eq_true (by omega)
    have hc5':=(hb.cell (p:=⟨w.heap.size,5,none⟩) hwl).trans hc5
    have hc6':=(hb.cell (p:=⟨w.heap.size,6,none⟩) hwl).trans hc6
    obtain ⟨a9,c9,rfl⟩:=ownsRow_form HO.out
    have hsz:=hb.size
    have hkl:k ≤ 1048576:=by omega
    clear h10 hks
    generalize (k:Int) * t.Seg = ks at *
    by_cases hmn:d - ks ≤ t.Seg
    ·skip
     have hm2:min (d - ks) t.Seg + t.Cost = d - ks + t.Cost:=by omega
     rw [hm2] at H10
     clear hm2
     go_wp2_with (at_builtin;refine wpList_append_own _ rfl _ _ 28 rfl w1.heap.size 3 i0 (.int .i64 0) 1 8 Tryz.underlying28 ki kz0 kz1 kz2 rfl (by decide) _ _ _ rfl (HO.out.alloc _) ⟨wr.heap.size,0,none⟩ 1 1 [.int .i64 (d - ks + t.Cost)] rfl rfl ?c1 ?c2 ?c3 ?c4 ?c5 ?_)
     try (case c1=>exact fun j u hu=>cell_new _ _ _ j u hu)
     case c2=>first | rfl | (intro u hu;simp at hu;rcases hu with rfl;rfl)
     case c3=>unfold maxLen;omega
     case c4=>omega
     case c5=>first | omega | (simp;omega)
     intro v' w5 hown1 hgrow _
     have hbel1:Below w1.heap.size wr w5:=(((Below.refl _ _).alloc hsz _).grown hgrow (by simp;omega) (fun j e=>ownsRow_block HO.out j e))
     have Hb1:=Lib.hid (hb.trans hbel1)
     have HO1:Hid (w5.ownsRow w1.heap.size 3 1 v' (k + 1) (((partsT t d).take (k + 1)).map ic)):=by
      show World.ownsRow _ _ _ _ _ _ _
      rw [H10.out,List.map_append];simpa [ic,List.map_take] using hown1
     have hc5'':=(Hb1.out.cell (p:=⟨w.heap.size,5,none⟩) hwl).trans hc5
     clear hown1 hgrow hbel1 hb hc5' hc6'
     go_wp2_with fail
     go_roundw
     case rel=>exact ⟨k + 1,by omega,by rw [HKS.out];congr 1;omega,HO1.out,Hb1.out,by rw [HKS.out];omega⟩
     case measure=>simp [intOf];omega
    ·skip
     have hm2:min (d - ks) t.Seg + t.Cost = t.Seg + t.Cost:=by omega
     rw [hm2] at H10
     clear hm2
     go_wp2_with (at_builtin;refine wpList_append_own _ rfl _ _ 28 rfl w1.heap.size 3 i0 (.int .i64 0) 1 8 Tryz.underlying28 ki kz0 kz1 kz2 rfl (by decide) _ _ _ rfl (HO.out.alloc _) ⟨wr.heap.size,0,none⟩ 1 1 [.int .i64 (t.Seg + t.Cost)] rfl rfl ?c1 ?c2 ?c3 ?c4 ?c5 ?_)
     try (case c1=>exact fun j u hu=>cell_new _ _ _ j u hu)
     case c2=>first | rfl | (intro u hu;simp at hu;rcases hu with rfl;rfl)
     case c3=>unfold maxLen;omega
     case c4=>omega
     case c5=>first | omega | (simp;omega)
     intro v' w5 hown1 hgrow _
     have hbel1:Below w1.heap.size wr w5:=(((Below.refl _ _).alloc hsz _).grown hgrow (by simp;omega) (fun j e=>ownsRow_block HO.out j e))
     have Hb1:=Lib.hid (hb.trans hbel1)
     have HO1:Hid (w5.ownsRow w1.heap.size 3 1 v' (k + 1) (((partsT t d).take (k + 1)).map ic)):=by
      show World.ownsRow _ _ _ _ _ _ _
      rw [H10.out,List.map_append];simpa [ic,List.map_take] using hown1
     have hc5'':=(Hb1.out.cell (p:=⟨w.heap.size,5,none⟩) hwl).trans hc5
     clear hown1 hgrow hbel1 hb hc5' hc6'
     go_wp2_with fail
     go_roundw
     case rel=>exact ⟨k + 1,by omega,by rw [HKS.out];congr 1;omega,HO1.out,Hb1.out,by rw [HKS.out];omega⟩
     case measure=>simp [intOf];omega
   ·have hle:=HE.out k (by omega)
    have hgt:decide (d - (k:Int) * t.Seg > 0) = false:=decide_eq_false (by omega)
    have hkl:k = (partsT t d).length:=by omega
    obtain ⟨a9,c9,rfl⟩:=ownsRow_form HO.out
    have Hb:=Lib.hid (hbw.trans (hb.mono hbw.size))
    clear hb
    subst hkl
    rw [List.take_length] at HO
    have HI:=Lib.hid (ints_of_own HO.out rfl)
    have HOB:Hid (∀ b,(Value.slice a9 (partsT t d).length c9).ownBlock = some b → w.heap.size ≤ b):=fun b hb=>by have:=ownsRow_block HO.out b hb;omega
    clear hpl
    generalize (((partsT t d).length:Nat):Int) * t.Seg = ks at *
    go_wp2_with fail
    go_ret
    exact ⟨a9,c9,rfl,HI.out,Hb.out,HOB.out⟩
 ·have hmb:(t.Mode == 1) = false:=by simpa using hm
  have hp1:partsT t d = [d + t.Cost]:=by
   unfold partsT np plen
   rw [if_neg hm]
   show (List.range 1).map _ = _
   simp [hm]
  rw [hp1]
  clear hm hp1
  unfold tkv
  go_enter Tryz.func144,Tryz.ntmps144
  go_wp2_with fail
  go_ret
  refine ⟨some ⟨w.heap.size + 1,0,none⟩,1,rfl,⟨rfl,fun _=>⟨w.heap.size + 1,0,rfl,by simp,fun j hj=>?_⟩⟩,bel_alloc (bel_alloc (Below.refl _ _) _) _,fun b hb=>by simp only [Value.ownBlock,Option.some.injEq] at hb;omega⟩
  obtain rfl:j = 0:=by simpa using hj
  exact cell_newb _ _ _ _ 0 _ (by simp) rfl
end
section
open Go.RowKit
attribute [local go_sem ↓] Go.wp_at_zero Go.wp_at_succ
theorem rstep_done (t:Tk) (ht:t.Ok) (j:Jb) (hj:JbOk t j) (hl:j.left = 1) (hs:j.struck = false) (hd:t.Mode ≠ 1 ∨ j.part = np t j.dem - 1) (w:World) :
  Calls Tryz.prog 106 #[rnv t j,.bool false] w fun e w'=>e = .returned (.tuple #[rnv t { j with left:=0,struck:=false },.int .i64 4]) ∧ Below w.heap.size w w':=by
 have HP:=Lib.hid fun W=>parts_any t ht j.dem W hj.d1 hj.dc
 have hlen:((partsT t j.dem).length:Int) = np t j.dem:=by rw [partsT_length];have:=np_pos (d:=j.dem) ht hj.d1;omega
 have hnl:=np_le ht hj.d1
 have hnp:=np_pos (d:=j.dem) ht hj.d1
 have h1:=hj.dc
 have h2:=ht.cd
 have h3:=ht.dt
 have h4:=ht.tm
 unfold tkv at HP
 unfold rnv
 rw [hl,hs]
 have hsz:∀ (a b:Obj),w.heap.size + 1 < ((w.alloc a).alloc b).heap.size:=fun a b=>by simp
 have hsz0:∀ (a b:Obj),w.heap.size < ((w.alloc a).alloc b).heap.size:=fun a b=>by simp <;> omega
 have hbl:∀ (a b:Obj),Below w.heap.size w ((w.alloc a).alloc b):=fun a b=>bel_alloc (bel_alloc (Below.refl _ _) _) _
 go_enter Tryz.func106,Tryz.ntmps106
 go_wp2_with fail
 refine (HP.out _).mono ?_
 rintro e w4 ⟨a4,c4,rfl,hI4,hb4⟩
 have hra:=rg_below hb4 (hsz0 _ _) (World.rangeAt_alloc (rg_new w _ _ _ rfl) _)
 have hth:w4.there (w.heap.size + 1) 0 16:=th_below hb4 (hsz _ _) (th_new _ _ _ _ 16 (by simp) (by simp))
 have hbe:Below w.heap.size w w4:=(hbl _ _).trans (hb4.mono (by simp <;> omega))
 have e9:=hra 9 _ rfl
 have e12:=hra 12 _ rfl
 simp only [Nat.zero_add] at e9 e12
 clear hI4 hb4 hsz hsz0 hbl HP hj
 rcases hd with hm | hp
 ·have hmb:(t.Mode != 1) = true:=by simpa using hm
  clear hm
  as_aux_lemma =>
  go_wp2_with (first | (refine wpList_load_mid rfl 57 _ rfl w.heap.size 0 rfl _ _ hra Tryz.underlying57 rfl Tryz.size57 ?_) | (refine wpList_store_mid rfl 57 _ _ rfl (w.heap.size + 1) 0 _ rfl rfl hth Tryz.size57 (by simp [Value.oneCell']) ?_))
  exact bodyPost_ret (res_cell_tmp (by rfl) _ _ (w.heap.size + 1) _ _ rfl (World.rangeAt_setCells_same _ _ _ _ hth) Tryz.underlying57 rfl Tryz.size57) rfl ⟨rfl,below_setCells (by omega) _ _ _ hbe⟩
 ·by_cases hm:t.Mode = 1
  ·have hmb:(t.Mode != 1) = false:=by simpa using hm
   have hpe:(j.part == ((partsT t j.dem).length:Int) - 1) = true:=by rw [hlen];simpa using hp
   clear hm hp
   generalize (partsT t j.dem).length = n at *
   as_aux_lemma =>
   go_wp2_with (first | (refine wpList_load_mid rfl 57 _ rfl w.heap.size 0 rfl _ _ hra Tryz.underlying57 rfl Tryz.size57 ?_) | (refine wpList_store_mid rfl 57 _ _ rfl (w.heap.size + 1) 0 _ rfl rfl hth Tryz.size57 (by simp [Value.oneCell']) ?_))
   exact bodyPost_ret (res_cell_tmp (by rfl) _ _ (w.heap.size + 1) _ _ rfl (World.rangeAt_setCells_same _ _ _ _ hth) Tryz.underlying57 rfl Tryz.size57) rfl ⟨rfl,below_setCells (by omega) _ _ _ hbe⟩
  ·have hmb:(t.Mode != 1) = true:=by simpa using hm
   clear hm hp
   as_aux_lemma =>
   go_wp2_with (first | (refine wpList_load_mid rfl 57 _ rfl w.heap.size 0 rfl _ _ hra Tryz.underlying57 rfl Tryz.size57 ?_) | (refine wpList_store_mid rfl 57 _ _ rfl (w.heap.size + 1) 0 _ rfl rfl hth Tryz.size57 (by simp [Value.oneCell']) ?_))
   exact bodyPost_ret (res_cell_tmp (by rfl) _ _ (w.heap.size + 1) _ _ rfl (World.rangeAt_setCells_same _ _ _ _ hth) Tryz.underlying57 rfl Tryz.size57) rfl ⟨rfl,below_setCells (by omega) _ _ _ hbe⟩
theorem rstep_pass (t:Tk) (ht:t.Ok) (j:Jb) (hj:JbOk t j) (hl:j.left = 1) (hs:j.struck = false) (hm:t.Mode = 1) (hp:j.part + 1 < np t j.dem) (w:World) :
  Calls Tryz.prog 106 #[rnv t j,.bool false] w fun e w'=>e = .returned (.tuple #[rnv t { j with part:=j.part + 1,left:=plen t j.dem (j.part + 1),struck:=false },.int .i64 1]) ∧ Below w.heap.size w w':=by
 have HP:=Lib.hid fun W=>parts_fr t ht j.dem W hj.d1 hj.dc
 have hlen:((partsT t j.dem).length:Int) = np t j.dem:=by rw [partsT_length];have:=np_pos (d:=j.dem) ht hj.d1;omega
 have hnl:=np_le ht hj.d1
 have h1:=hj.dc
 have h2:=ht.cd
 have h3:=ht.dt
 have h4:=ht.tm
 have hp0:=hj.p0
 obtain ⟨pn,hpn⟩:∃ pn:Nat,j.part = (pn:Int):=⟨j.part.toNat,by omega⟩
 have hpl:pn + 1 < (partsT t j.dem).length:=by omega
 have HPL:=Lib.hid (partsT_at t j.dem (pn + 1) hpl)
 have hpi:(pn:Int) + 1 < ((partsT t j.dem).length:Int):=by omega
 have hmb:(t.Mode != 1) = false:=by simpa using hm
 have hpe:((pn:Int) == ((partsT t j.dem).length:Int) - 1) = false:=by simp;omega
 have hcast:((pn + 1:Nat):Int) = (pn:Int) + 1:=by omega
 unfold tkv at HP
 unfold rnv
 simp only
 rw [hl,hs,hpn]
 rw [hcast] at HPL
 rw [← HPL.out]
 have hsz:∀ (a b:Obj),w.heap.size + 1 < ((w.alloc a).alloc b).heap.size:=fun a b=>by simp
 have hsz0:∀ (a b:Obj),w.heap.size < ((w.alloc a).alloc b).heap.size:=fun a b=>by simp <;> omega
 have hbl:∀ (a b:Obj),Below w.heap.size w ((w.alloc a).alloc b):=fun a b=>bel_alloc (bel_alloc (Below.refl _ _) _) _
 clear hj hm hp hpn HPL hcast hl hs
 go_enter Tryz.func106,Tryz.ntmps106
 go_wp2_with fail
 refine (HP.out _).mono ?_
 rintro e w4 ⟨a4,c4,rfl,hI4,hb4,hfr4⟩
 obtain ⟨b4,o4,rfl,hb4lt,hc4⟩:=hI4.2 (by omega)
 have hfr5:w.heap.size + 1 + 1 ≤ b4:=by have:=hfr4 b4 rfl;simpa using this
 have hn1:w.heap.size ≠ b4:=by omega
 clear hfr4
 have hcp:=hc4 (pn + 1) hpl
 have hra:=rg_below hb4 (hsz0 _ _) (World.rangeAt_alloc (rg_new w _ _ _ rfl) _)
 have hth0:w4.there w.heap.size 0 16:=th_below hb4 (hsz0 _ _) (World.there_alloc (th_new w _ _ _ 16 rfl (by simp)) _)
 have hth:w4.there (w.heap.size + 1) 0 16:=th_below hb4 (hsz _ _) (th_new _ _ _ _ 16 (by simp) (by simp))
 have hbe:Below w.heap.size w w4:=(hbl _ _).trans (hb4.mono (by simp <;> omega))
 have e9:=hra 9 _ rfl
 have e12:=hra 12 _ rfl
 have e13:=hra 13 _ rfl
 have f12:=(hth0 12 (by decide)).2
 have f13:=(hth0 13 (by decide)).2
 simp only [Nat.zero_add] at e9 e12 e13 f12 f13
 clear hI4 hb4 hsz hsz0 hbl HP hc4
 have hra2:((w4.setCell ⟨w.heap.size,12,none⟩ (.int .i64 ((pn:Int) + 1))).setCell ⟨w.heap.size,13,none⟩ (.int .i64 (partsT t j.dem)[pn + 1])).rangeAt w.heap.size 0 [.string t.nm,.int .i64 t.T,.int .i64 t.D,.int .i64 t.C,.int .i64 t.A,.int .i64 t.Seg,.int .i64 t.Cost,.int .i64 t.M,.int .i64 t.K,.int .i64 t.Mode,.int .i64 t.Prio,.int .i64 j.dem,.int .i64 ((pn:Int) + 1),.int .i64 (partsT t j.dem)[pn + 1],.bool false,.int .i64 j.fails] :=
  rg_set (k:=13) (rg_set (k:=12) hra (by simp)) (by simp)
 have hth2:((w4.setCell ⟨w.heap.size,12,none⟩ (.int .i64 ((pn:Int) + 1))).setCell ⟨w.heap.size,13,none⟩ (.int .i64 (partsT t j.dem)[pn + 1])).there (w.heap.size + 1) 0 16:=th_set (th_set hth)
 have hbe2:Below w.heap.size w ((w4.setCell ⟨w.heap.size,12,none⟩ (.int .i64 ((pn:Int) + 1))).setCell ⟨w.heap.size,13,none⟩ (.int .i64 (partsT t j.dem)[pn + 1])):=(hbe.setCell (p:=⟨w.heap.size,12,none⟩) (Nat.le_refl _) _).setCell (p:=⟨w.heap.size,13,none⟩) (Nat.le_refl _) _
 clear hra hth hth0 hbe
 as_aux_lemma =>
 go_wp2_with (first | (refine wpList_load_mid rfl 57 _ rfl w.heap.size 0 rfl _ _ hra2 Tryz.underlying57 rfl Tryz.size57 ?_) | (refine wpList_store_mid rfl 57 _ _ rfl (w.heap.size + 1) 0 _ rfl rfl hth2 Tryz.size57 (by simp [Value.oneCell']) ?_))
 exact bodyPost_ret (res_cell_tmp (by rfl) _ _ (w.heap.size + 1) _ _ rfl (World.rangeAt_setCells_same _ _ _ _ hth2) Tryz.underlying57 rfl Tryz.size57) rfl ⟨rfl,below_setCells (by omega) _ _ _ hbe2⟩
end
section
open Go.RowKit
attribute [local go_sem ↓] Go.wp_at_zero Go.wp_at_succ
theorem rstep_is (t:Tk) (ht:t.Ok) (j:Jb) (hj:JbOk t j) (hf:0 ≤ j.fails ∧ j.fails ≤ 1099511627776) (hl2:j.left ≤ 1099511627776) (hit:Bool) (w:World) :
  Calls Tryz.prog 106 #[rnv t j,.bool hit] w fun e w'=>e = .returned (.tuple #[rnv t (rstep t j hit).1,.int .i64 (rstep t j hit).2]) ∧ Below w.heap.size w w':=by
 have hl1:=hj.l1
 unfold rstep
 by_cases h1:1 < j.left
 ·rw [if_pos (by omega)]
  exact rstep_runs t j h1 hl2 hit w
 ·have hl:j.left = 1:=by omega
  rw [if_neg (by omega)]
  by_cases h2:(j.struck || hit) = true
  ·rw [if_pos h2]
   have:=rstep_struck t ht j hj hf hl hit w h2 _ _ rfl rfl
   by_cases hm:t.Mode = 1
   ·rw [if_pos hm];simp only [if_pos hm] at this;exact this
   ·rw [if_neg hm];simp only [if_neg hm] at this;exact this
  ·rw [if_neg h2]
   have h3:j.struck = false ∧ hit = false:=by simpa using h2
   obtain ⟨hs,rfl⟩:=h3
   by_cases hd:t.Mode ≠ 1 ∨ j.part = np t j.dem - 1
   ·rw [if_pos hd]
    have:=rstep_done t ht j hj hl hs hd w
    rw [show j.left - 1 = 0 by omega,hs]
    exact this
   ·rw [if_neg hd]
    have hm:t.Mode = 1:=by
     rcases Classical.em (t.Mode = 1) with h | h
     ·exact h
     ·exact absurd (.inl h) hd
    have hp:j.part + 1 < np t j.dem:=by
     have:=hj.pr hm
     have:j.part ≠ np t j.dem - 1:=fun e=>hd (.inr e)
     omega
    have:=rstep_pass t ht j hj hl hs hm hp w
    rw [hs]
    exact this
theorem fr_setCells {S:Nat → Prop} {a:World} {b:Nat} (hb:S b):∀ (l:List Value) (o:Nat) (w:World),Fr S a w → Fr S a (w.setCells b o l)
 | [],_,_,h=>h
 | v :: r,o,w,h=>fr_setCells hb r (o + 1) _ (h.setCell (p:=⟨b,o,none⟩) hb v)
theorem Tryz.size41:(Tryz.prog.info? 41).map (·.size) = some 11:=by kernel_rfl
def beginJ (t:Tk) (d:Int):Jb:={ no:=0,rel:=0,must:=false,over:=false,begun:=false,dem:=d,part:=0,left:=plen t d 0,struck:=false,fails:=0 }
theorem begin_is (t:Tk) (ht:t.Ok) (d:Int) (h1:1 ≤ d) (h2:d ≤ t.C) (w:World) :
  Calls Tryz.prog 100 #[tkv t,.int .i64 d] w fun e w'=>e = .returned (.tuple #[rnv t (beginJ t d),.int .i64 0]) ∧ Below w.heap.size w w':=by
 have HP:=Lib.hid fun W=>parts_fr t ht d W h1 h2
 have hlen:((partsT t d).length:Int) = np t d:=by rw [partsT_length];have:=np_pos (d:=d) ht h1;omega
 have hnp:=np_pos (d:=d) ht h1
 have hpl:0 < (partsT t d).length:=by omega
 have hne:(((partsT t d).length:Int) == 0) = false:=by rw [beq_eq_false_iff_ne];omega
 have HPL:Hid ((partsT t d)[0] = plen t d 0):=partsT_at t d 0 hpl
 have hsz:∀ (a b:Obj),w.heap.size + 1 < ((w.alloc a).alloc b).heap.size:=fun a b=>by simp
 have hsz0:∀ (a b:Obj),w.heap.size < ((w.alloc a).alloc b).heap.size:=fun a b=>by simp <;> omega
 have hbl:∀ (a b:Obj),Below w.heap.size w ((w.alloc a).alloc b):=fun a b=>bel_alloc (bel_alloc (Below.refl _ _) _) _
 unfold tkv at HP ⊢
 unfold rnv beginJ
 simp only
 go_enter Tryz.func100,Tryz.ntmps100
 go_wp2_with fail
 refine (HP.out _).mono ?_
 rintro e w4 ⟨a4,c4,rfl,hI4,hb4,hfr4⟩
 obtain ⟨b4,o4,rfl,hb4lt,hc4⟩:=hI4.2 hpl
 have hcp:=hc4 0 hpl
 rw [HPL.out] at hcp
 have hra:=rg_below hb4 (hsz0 _ _) (World.rangeAt_alloc (rg_new w _ _ _ rfl) _)
 have hth:w4.there (w.heap.size + 1) 0 16:=th_below hb4 (hsz _ _) (th_new _ _ _ _ 16 (by simp) (by simp))
 have hfr5:w.heap.size + 1 + 1 ≤ b4:=by have:=hfr4 b4 rfl;simpa using this
 have hbe:Below w.heap.size w w4:=(hbl _ _).trans (hb4.mono (by simp <;> omega))
 clear hI4 hb4 hsz hsz0 hbl HP hc4 hfr4 hlen
 go_wp2_with fail
 rw [Nat.add_zero] at hcp
 have hthd:w4.drew.there (w.heap.size + 1) 0 16:=hth
 have hb4ne:¬ b4 = w.heap.size + 1:=by omega
 have hwl4:w.heap.size < w4.heap.size:=block_lt (hra 0 _ rfl)
 have HQ:Hid (∀ w',Fr (fun q=>q = w.heap.size + 1) w4 w' → w'.rangeAt w.heap.size 0 [.string t.nm,.int .i64 t.T,.int .i64 t.D,.int .i64 t.C,.int .i64 t.A,.int .i64 t.Seg,.int .i64 t.Cost,.int .i64 t.M,.int .i64 t.K,.int .i64 t.Mode,.int .i64 t.Prio] ∧ w'.cell? ⟨b4,o4,none⟩ = some (.int .i64 (plen t d 0)) ∧ Fr (fun q=>q = w.heap.size + 1) w4 w'):=fun w' hf =>
  ⟨fun j u hj=>(hf.cell (p:=⟨w.heap.size,0 + j,none⟩) hwl4 (by show ¬ w.heap.size = w.heap.size + 1;omega)).trans (hra j u hj),(hf.cell (p:=⟨b4,o4,none⟩) hb4lt hb4ne).trans hcp,hf⟩
 refine wp_region_held_drew (S:=(fun w'=>w'.rangeAt w.heap.size 0 [.string t.nm,.int .i64 t.T,.int .i64 t.D,.int .i64 t.C,.int .i64 t.A,.int .i64 t.Seg,.int .i64 t.Cost,.int .i64 t.M,.int .i64 t.K,.int .i64 t.Mode,.int .i64 t.Prio] ∧ w'.cell? ⟨b4,o4,none⟩ = some (.int .i64 (plen t d 0)) ∧ Fr (fun q=>q = w.heap.size + 1) w4 w')) (by kernel_rfl) ?hS0 (fun hHeld=>?_)
 case hS0=>(try dsimp only);exact HQ.out _ ((Fr.refl _ _).drew)
 refine wpAnyH_take (i := 0) (oi := { dst := some 14, op := Op.load 41 (Operand.tmp 2), type := 41, pos := "recover.go:18", after := #[], guard := none }) rfl (by kernel_rfl) (by kernel_rfl) (by kernel_rfl) (fun _ _ _ h => h) (yieldsIf_load_mid (by rfl) 41 _ rfl w.heap.size 0 rfl [.string t.nm, .int .i64 t.T, .int .i64 t.D, .int .i64 t.C, .int .i64 t.A, .int .i64 t.Seg, .int .i64 t.Cost, .int .i64 t.M, .int .i64 t.K, .int .i64 t.Mode, .int .i64 t.Prio] _ ?hS1 Tryz.underlying41 rfl Tryz.size41) (by assumption) ?_
 case hS1=>(intro wS hSw;(try dsimp only at hSw);exact hSw.1)
 try simp only [Act.put,List.setIfInBounds_toArray,List.set]
 refine wtk (i:=1) ?_
 try simp only [Act.put,List.setIfInBounds_toArray,List.set]
 refine wtk (i:=2) ?_
 try simp only [Act.put,List.setIfInBounds_toArray,List.set]
 refine wtk (i:=3) ?_
 try simp only [Act.put,List.setIfInBounds_toArray,List.set]
 refine wtk (i:=4) ?_
 try simp only [Act.put,List.setIfInBounds_toArray,List.set]
 refine wtk (i:=5) ?_
 try simp only [Act.put,List.setIfInBounds_toArray,List.set]
 refine wpAnyH_ready (rs:=[6]) (by kernel_rfl) (by simp) ?_
 refine arc (fun K hK=>?_) AllReadyH.nil
 rw [if_pos (by rfl)]
 refine wp_store_mid 57 _ _ rfl (w.heap.size + 1) 0 _ rfl rfl hthd Tryz.size57 (by simp [Value.oneCell']) ?_
 try simp only [Act.put,List.setIfInBounds_toArray,List.set]
 refine hK.out _ _ ?hS7 (fun hHeld2=>?hr7)
 case hS7=>(try dsimp only);exact HQ.out _ (fr_setCells (S:=fun q=>q = w.heap.size + 1) rfl _ _ _ hHeld.2.2)
 clear hK K hHeld
 have hHeld:=hHeld2
 clear hHeld2
 try simp only [Act.put,List.setIfInBounds_toArray,List.set]
 refine wtk (i:=7) ?_
 try simp only [Act.put,List.setIfInBounds_toArray,List.set]
 refine wpAnyH_done (by kernel_rfl) ?_ _
 go_wp2_with fail
 exact bodyPost_ret (res_cell_tmp (by rfl) _ _ (w.heap.size + 1) _ _ rfl (World.rangeAt_setCells_same _ _ _ _ hthd) Tryz.underlying57 rfl Tryz.size57) rfl ⟨rfl,below_setCells (by omega) _ _ _ (bel_drew hbe)⟩
end
section
open Go.RowKit
attribute [local go_sem ↓] Go.wp_at_zero Go.wp_at_succ
theorem th_setCells {b' o' n:Nat} {b:Nat}:∀ (l:List Value) (o:Nat) (w:World),w.there b' o' n → (w.setCells b o l).there b' o' n
 | [],_,_,h=>h
 | v :: r,o,w,h=>th_setCells r (o + 1) _ (th_set h)
theorem th_fr {F:Nat → Prop} {w w':World} {b o n:Nat} (h:w.there b o n) (hf:Fr F w w') (hb:b < w.heap.size) (hF:¬ F b):w'.there b o n:=fun j hj=>by
 obtain ⟨h1,h2⟩:=h j hj
 exact ⟨by rw [hf.cell (p:=⟨b,o + j,none⟩) hb hF];exact h1,by rw [hf.frozen (p:=⟨b,o + j,none⟩) hb hF];exact h2⟩
theorem Tryz.size59:(Tryz.prog.info? 59).map (·.size) = some 23:=by kernel_rfl
theorem Tryz.size166:(Tryz.prog.info? 166).map (·.size) = some 4:=by kernel_rfl
theorem key_any (i:Int) (t:Tk) (j:Jb) (w:World):Calls Tryz.prog 68 #[jbv i t j] w fun e w'=>e = .returned (qv (bandJ t j,t.Prio,(j.rel:Int),i)) ∧ Below w.heap.size w w':=by
 have HB:=Lib.hid fun W=>band_any i t j W
 have hsz:∀ (a b:Obj),w.heap.size + 1 < ((w.alloc a).alloc b).heap.size:=fun a b=>by simp
 have hsz2:∀ (a b:Obj),((w.alloc a).alloc b).heap.size = w.heap.size + 1 + 1:=fun a b=>by simp
 have hbl:∀ (a b:Obj),Below w.heap.size w ((w.alloc a).alloc b):=fun a b=>bel_alloc (bel_alloc (Below.refl _ _) _) _
 unfold jbv at *
 unfold qv
 go_enter Tryz.func68,Tryz.ntmps68
 go_wp2_with fail
 have hra:=World.rangeAt_alloc (rg_new w (List.toArray [.int .i64 i,.int .i64 j.no,.int .i64 j.rel,.int .i64 (j.rel + t.D),.bool j.must,.bool j.over,.bool j.begun,.string t.nm,.int .i64 t.T,.int .i64 t.D,.int .i64 t.C,.int .i64 t.A,.int .i64 t.Seg,.int .i64 t.Cost,.int .i64 t.M,.int .i64 t.K,.int .i64 t.Mode,.int .i64 t.Prio,.int .i64 j.dem,.int .i64 j.part,.int .i64 j.left,.bool j.struck,.int .i64 j.fails]) 59 _ rfl) (.cells #[.int .i64 0,.int .i64 0,.int .i64 0,.int .i64 0] 166)
 have hth:=th_new (w.alloc (.cells (List.toArray [.int .i64 i,.int .i64 j.no,.int .i64 j.rel,.int .i64 (j.rel + t.D),.bool j.must,.bool j.over,.bool j.begun,.string t.nm,.int .i64 t.T,.int .i64 t.D,.int .i64 t.C,.int .i64 t.A,.int .i64 t.Seg,.int .i64 t.Cost,.int .i64 t.M,.int .i64 t.K,.int .i64 t.Mode,.int .i64 t.Prio,.int .i64 j.dem,.int .i64 j.part,.int .i64 j.left,.bool j.struck,.int .i64 j.fails]) 59)) #[.int .i64 0,.int .i64 0,.int .i64 0,.int .i64 0] 166 (w.heap.size + 1) 4 (by simp) (by simp)
 have hsz':=hsz (.cells (List.toArray [.int .i64 i,.int .i64 j.no,.int .i64 j.rel,.int .i64 (j.rel + t.D),.bool j.must,.bool j.over,.bool j.begun,.string t.nm,.int .i64 t.T,.int .i64 t.D,.int .i64 t.C,.int .i64 t.A,.int .i64 t.Seg,.int .i64 t.Cost,.int .i64 t.M,.int .i64 t.K,.int .i64 t.Mode,.int .i64 t.Prio,.int .i64 j.dem,.int .i64 j.part,.int .i64 j.left,.bool j.struck,.int .i64 j.fails]) 59) (.cells #[.int .i64 0,.int .i64 0,.int .i64 0,.int .i64 0] 166)
 have hbl':=hbl (.cells (List.toArray [.int .i64 i,.int .i64 j.no,.int .i64 j.rel,.int .i64 (j.rel + t.D),.bool j.must,.bool j.over,.bool j.begun,.string t.nm,.int .i64 t.T,.int .i64 t.D,.int .i64 t.C,.int .i64 t.A,.int .i64 t.Seg,.int .i64 t.Cost,.int .i64 t.M,.int .i64 t.K,.int .i64 t.Mode,.int .i64 t.Prio,.int .i64 j.dem,.int .i64 j.part,.int .i64 j.left,.bool j.struck,.int .i64 j.fails]) 59) (.cells #[.int .i64 0,.int .i64 0,.int .i64 0,.int .i64 0] 166)
 clear hsz hsz2 hbl
 generalize hwb:w.heap.size = wb at *
 have HWB:=Lib.hid hwb
 clear hwb
 change Code.wp _ _ _ _ ((w.alloc (.cells (List.toArray [.int .i64 i,.int .i64 j.no,.int .i64 j.rel,.int .i64 (j.rel + t.D),.bool j.must,.bool j.over,.bool j.begun,.string t.nm,.int .i64 t.T,.int .i64 t.D,.int .i64 t.C,.int .i64 t.A,.int .i64 t.Seg,.int .i64 t.Cost,.int .i64 t.M,.int .i64 t.K,.int .i64 t.Mode,.int .i64 t.Prio,.int .i64 j.dem,.int .i64 j.part,.int .i64 j.left,.bool j.struck,.int .i64 j.fails]) 59)).alloc (.cells #[.int .i64 0,.int .i64 0,.int .i64 0,.int .i64 0] 166))
 generalize (w.alloc (.cells (List.toArray [.int .i64 i,.int .i64 j.no,.int .i64 j.rel,.int .i64 (j.rel + t.D),.bool j.must,.bool j.over,.bool j.begun,.string t.nm,.int .i64 t.T,.int .i64 t.D,.int .i64 t.C,.int .i64 t.A,.int .i64 t.Seg,.int .i64 t.Cost,.int .i64 t.M,.int .i64 t.K,.int .i64 t.Mode,.int .i64 t.Prio,.int .i64 j.dem,.int .i64 j.part,.int .i64 j.left,.bool j.struck,.int .i64 j.fails]) 59)).alloc (.cells #[.int .i64 0,.int .i64 0,.int .i64 0,.int .i64 0] 166) = w1 at *
 have hwb1:wb + 1 < w1.heap.size:=hsz'
 have HBE:Hid (∀ w',Fr (fun q=>q = wb + 1) w1 w' → Below w.heap.size w w'):=fun w' hf=>by
  have e:=HWB.out
  rw [e]
  exact hbl'.trans (hf.below (B:=wb) (fun q _ h=>by omega) (by omega))
 have HQ:Hid (∀ w',Fr (fun q=>q = wb + 1) w1 w' → w'.there (wb + 1) 0 4 → w'.rangeAt wb 0 [.int .i64 i,.int .i64 j.no,.int .i64 j.rel,.int .i64 (j.rel + t.D),.bool j.must,.bool j.over,.bool j.begun,.string t.nm,.int .i64 t.T,.int .i64 t.D,.int .i64 t.C,.int .i64 t.A,.int .i64 t.Seg,.int .i64 t.Cost,.int .i64 t.M,.int .i64 t.K,.int .i64 t.Mode,.int .i64 t.Prio,.int .i64 j.dem,.int .i64 j.part,.int .i64 j.left,.bool j.struck,.int .i64 j.fails] ∧ w'.cell? ⟨wb,17,none⟩ = some (.int .i64 t.Prio) ∧ w'.cell? ⟨wb,2,none⟩ = some (.int .i64 j.rel) ∧ w'.cell? ⟨wb,0,none⟩ = some (.int .i64 i) ∧ w'.there (wb + 1) 0 4 ∧ Fr (fun q=>q = wb + 1) w1 w'):=fun w' hf ht=>by
  have hr:w'.rangeAt wb 0 [.int .i64 i,.int .i64 j.no,.int .i64 j.rel,.int .i64 (j.rel + t.D),.bool j.must,.bool j.over,.bool j.begun,.string t.nm,.int .i64 t.T,.int .i64 t.D,.int .i64 t.C,.int .i64 t.A,.int .i64 t.Seg,.int .i64 t.Cost,.int .i64 t.M,.int .i64 t.K,.int .i64 t.Mode,.int .i64 t.Prio,.int .i64 j.dem,.int .i64 j.part,.int .i64 j.left,.bool j.struck,.int .i64 j.fails]:=rg_fr hf (by omega) (by show ¬ wb = wb + 1;omega) hra
  exact ⟨hr,by simpa using hr 17 _ rfl,by simpa using hr 2 _ rfl,by simpa using hr 0 _ rfl,ht,hf⟩
 refine wp_region_held_drew (S:=(fun w'=>w'.rangeAt wb 0 [.int .i64 i,.int .i64 j.no,.int .i64 j.rel,.int .i64 (j.rel + t.D),.bool j.must,.bool j.over,.bool j.begun,.string t.nm,.int .i64 t.T,.int .i64 t.D,.int .i64 t.C,.int .i64 t.A,.int .i64 t.Seg,.int .i64 t.Cost,.int .i64 t.M,.int .i64 t.K,.int .i64 t.Mode,.int .i64 t.Prio,.int .i64 j.dem,.int .i64 j.part,.int .i64 j.left,.bool j.struck,.int .i64 j.fails] ∧ w'.cell? ⟨wb,17,none⟩ = some (.int .i64 t.Prio) ∧ w'.cell? ⟨wb,2,none⟩ = some (.int .i64 j.rel) ∧ w'.cell? ⟨wb,0,none⟩ = some (.int .i64 i) ∧ w'.there (wb + 1) 0 4 ∧ Fr (fun q=>q = wb + 1) w1 w')) (by kernel_rfl) ?hS0 (fun hHeld=>?_)
 case hS0=>(try dsimp only);exact HQ.out _ ((Fr.refl _ _).drew) hth
 refine wpAnyH_take (i := 0) (oi := { dst := some 3, op := Op.load 59 (Operand.tmp 1), type := 59, pos := "job.go:37", after := #[], guard := none }) rfl (by kernel_rfl) (by kernel_rfl) (by kernel_rfl) (fun _ _ _ h => h) (yieldsIf_load_mid (by rfl) 59 _ rfl wb 0 rfl [.int .i64 i, .int .i64 j.no, .int .i64 j.rel, .int .i64 (j.rel + t.D), .bool j.must, .bool j.over, .bool j.begun, .string t.nm, .int .i64 t.T, .int .i64 t.D, .int .i64 t.C, .int .i64 t.A, .int .i64 t.Seg, .int .i64 t.Cost, .int .i64 t.M, .int .i64 t.K, .int .i64 t.Mode, .int .i64 t.Prio, .int .i64 j.dem, .int .i64 j.part, .int .i64 j.left, .bool j.struck, .int .i64 j.fails] _ ?hS1 Tryz.underlying59 rfl Tryz.size59) (by assumption) ?_
 case hS1=>(intro wS hSw;(try dsimp only at hSw);exact hSw.1)
 try simp only [Act.put,List.setIfInBounds_toArray,List.set]
 refine wtk (i:=2) ?_
 try simp only [Act.put,List.setIfInBounds_toArray,List.set]
 refine wtk (i:=3) ?_
 try simp only [Act.put,List.setIfInBounds_toArray,List.set]
 refine wtk (i:=4) ?_
 try simp only [Act.put,List.setIfInBounds_toArray,List.set]
 refine wtk (i:=5) ?_
 try simp only [Act.put,List.setIfInBounds_toArray,List.set]
 refine wtk (i:=6) ?_
 try simp only [Act.put,List.setIfInBounds_toArray,List.set]
 refine wtk (i:=7) ?_
 try simp only [Act.put,List.setIfInBounds_toArray,List.set]
 refine wtk (i:=8) ?_
 try simp only [Act.put,List.setIfInBounds_toArray,List.set]
 refine wtk (i:=9) ?_
 try simp only [Act.put,List.setIfInBounds_toArray,List.set]
 refine wpAnyH_ready (rs:=[1]) (by kernel_rfl) (by simp) ?_
 refine arc (fun K hK=>?_) AllReadyH.nil
 go_simp;go_at_call 105;refine Calls.mono (HB.out _) ?_;rintro e w5 ⟨rfl,hb5⟩
 refine hK.out _ _ ?hS10 (fun hHeld2=>?hr10)
 case hS10=>(try dsimp only);exact HQ.out _ (hHeld.2.2.2.2.2.trans (Fr.of_below (S:=fun _=>False) hb5) (fun _ _ h=>h) (fun _ _ h=>h.elim)) (th_fr hHeld.2.2.2.2.1 (Fr.of_below (S:=fun _=>False) hb5) (Nat.lt_of_lt_of_le hwb1 hHeld.2.2.2.2.2.size) (by simp))
 clear hK K hHeld
 have hHeld:=hHeld2
 clear hHeld2
 try simp only [Act.put,List.setIfInBounds_toArray,List.set]
 refine wtk (i:=10) ?_
 try simp only [Act.put,List.setIfInBounds_toArray,List.set]
 have hth5:=hHeld.2.2.2.2.1
 have hbe5:Below w.heap.size w w5:=HBE.out _ hHeld.2.2.2.2.2
 refine wpAnyH_ready (rs:=[11]) (by kernel_rfl) (by simp) ?_
 refine arc (fun K hK=>?_) AllReadyH.nil
 rw [if_pos (by rfl)]
 refine wp_store_mid 166 _ _ rfl (wb + 1) 0 _ rfl rfl hth5 Tryz.size166 (by simp [Value.oneCell']) ?_
 try simp only [Act.put,List.setIfInBounds_toArray,List.set]
 refine hK.out _ _ ?hS12 (fun hHeld2=>?hr12)
 case hS12=>(try dsimp only);exact HQ.out _ (fr_setCells (S:=fun q=>q = wb + 1) rfl _ _ _ hHeld.2.2.2.2.2) (th_setCells _ _ _ hHeld.2.2.2.2.1)
 clear hK K hHeld
 have hHeld:=hHeld2
 clear hHeld2
 try simp only [Act.put,List.setIfInBounds_toArray,List.set]
 refine wpAnyH_done (by kernel_rfl) ?_ _
 go_wp2_with fail
 exact bodyPost_ret (res_cell (by rfl) _ _ (wb + 1) [.int .i64 (bandJ t j),.int .i64 t.Prio,.int .i64 j.rel,.int .i64 i] _ rfl (World.rangeAt_setCells_same _ _ _ [.int .i64 (bandJ t j),.int .i64 t.Prio,.int .i64 j.rel,.int .i64 i] hth5) Tryz.underlying166 rfl Tryz.size166) rfl ⟨rfl,below_setCells (by have:=HWB.out;omega) _ _ _ hbe5⟩
end
end Go.Proofs.YtnoahekcemfmcaaGreatDoor
