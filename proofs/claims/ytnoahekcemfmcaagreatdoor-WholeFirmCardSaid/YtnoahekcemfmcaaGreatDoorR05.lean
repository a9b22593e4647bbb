/- A part of the walk: Pu2 Rg Pu3 Pu4. -/
import Derived.Test.YtnoahekcemfmcaaGreatDoorR04
import Derived.Deep.MidRow
import Derived.Deep.RegionHeld3
import Derived.Deep.DrawnRows
namespace Go.Proofs.YtnoahekcemfmcaaGreatDoor
set_option linter.unusedVariables false
set_option linter.unusedSimpArgs false
set_option maxHeartbeats 80000000
set_option maxRecDepth 100000
section
open Go.RowKit
attribute [local go_sem ↓] Go.wp_at_zero Go.wp_at_succ
theorem Tryz.info3:(Tryz.prog.info? 3).map (fun i=>(i.zero,i.size,i.bytes)) = some (some (.int .i64 0),1,8):=by kernel_rfl
def ic (x:Int):Value:=.int .i64 x
theorem ints_of_own {w:World} {base n:Nat} {a:Option Addr} {cap:Nat} {l:List Int} (h:w.ownsRow base 3 1 (.slice a n cap) l.length (l.map ic)) (hn:n = l.length):IntsIn w.heap.size w a n l:=by
 refine ⟨hn.symm,fun h0=>?_⟩
 obtain ⟨g,cap',hv,_,hlt,_,hc,_⟩:=ownsRow_cells h (by omega)
 simp at hv
 obtain ⟨rfl,_⟩:=hv
 refine ⟨g,0,rfl,hlt,fun j hj=>?_⟩
 rw [Nat.zero_add]
 exact hc j _ (by simp [hj,ic])
def partsT (t:Tk) (d:Int):List Int:=(List.range (np t d).toNat).map fun p:Nat=>plen t d (p:Int)
theorem partsT_length (t:Tk) (d:Int):(partsT t d).length = (np t d).toNat:=by simp [partsT]
theorem partsT_at (t:Tk) (d:Int) (p:Nat) (h:p < (partsT t d).length):(partsT t d)[p] = plen t d p:=by simp [partsT]
theorem np_le {t:Tk} {d:Int} (ht:t.Ok) (h1:1 ≤ d):np t d ≤ d:=by
 unfold np
 split
 ·rename_i hm
  have hs:=(ht.r1 hm).1
  have:(d + t.Seg - 1) / t.Seg < d + 1:=(Int.ediv_lt_iff_lt_mul (by omega)).2 (by
   have:0 ≤ d * (t.Seg - 1):=Int.mul_nonneg (by omega) (by omega)
   rw [Int.mul_sub,Int.mul_one] at this
   rw [Int.add_mul,Int.one_mul]
   omega)
  omega
 ·omega
theorem parts_any (t:Tk) (ht:t.Ok) (d:Int) (w:World) (h1:1 ≤ d) (h2:d ≤ t.C) :
  Calls Tryz.prog 144 #[tkv t,.int .i64 d] w fun e w'=>∃ (a:Option Addr) (c:Nat),e = .returned (.slice a (partsT t d).length c) ∧ IntsIn w'.heap.size w' a (partsT t d).length (partsT t d) ∧ Below w.heap.size w w':=by
 have h0:=ht.k0
 have h01:=ht.k1
 have h3:=ht.cd
 have h4:=ht.dt
 have h5:=ht.tm
 have hnp:=np_pos ht h1
 have hnl:=np_le ht h1
 have hdb:decide (d < 1) = false:=decide_eq_false (by omega)
 have hdc:decide (t.C < d) = false:=decide_eq_false (by omega)
 obtain ⟨i0,ki,kz0,kz1,kz2⟩:=info_parts Tryz.info3
 by_cases hm:t.Mode = 1
 ·obtain ⟨h6,h7,h8⟩:=ht.r1 hm
  have HP:Hid (∀ k:Nat,(k:Int) < np t d → (k:Int) * t.Seg < d ∧ (partsT t d).take (k + 1) = (partsT t d).take k ++ [min (d - (k:Int) * t.Seg) t.Seg + t.Cost]):=fun k hk=>by
   refine ⟨part_lt ht hm hk,?_⟩
   rw [List.take_succ_eq_append_getElem (by rw [partsT_length];omega),partsT_at]
   unfold plen;rw [if_pos hm]
  have HE:Hid (∀ k:Nat,np t d ≤ (k:Int) → d ≤ (k:Int) * t.Seg):=fun k hk=>part_ge ht hm hk
  have hpl:=partsT_length t d
  have hmb:(t.Mode == 1) = true:=by simpa using hm
  have hc5:=cell_newb w #[.string t.nm,.int .i64 t.T,.int .i64 t.D,.int .i64 t.C,.int .i64 t.A,.int .i64 t.Seg,.int .i64 t.Cost,.int .i64 t.M,.int .i64 t.K,.int .i64 t.Mode,.int .i64 t.Prio] 41 _ 5 _ rfl rfl
  have hc6:=cell_newb w #[.string t.nm,.int .i64 t.T,.int .i64 t.D,.int .i64 t.C,.int .i64 t.A,.int .i64 t.Seg,.int .i64 t.Cost,.int .i64 t.M,.int .i64 t.K,.int .i64 t.Mode,.int .i64 t.Prio] 41 _ 6 _ rfl rfl
  have hbw:=bel_alloc (Below.refl w.heap.size w) (.cells #[.string t.nm,.int .i64 t.T,.int .i64 t.D,.int .i64 t.C,.int .i64 t.A,.int .i64 t.Seg,.int .i64 t.Cost,.int .i64 t.M,.int .i64 t.K,.int .i64 t.Mode,.int .i64 t.Prio] 41)
  have hwl:w.heap.size < (w.alloc (.cells #[.string t.nm,.int .i64 t.T,.int .i64 t.D,.int .i64 t.C,.int .i64 t.A,.int .i64 t.Seg,.int .i64 t.Cost,.int .i64 t.M,.int .i64 t.K,.int .i64 t.Mode,.int .i64 t.Prio] 41)).heap.size:=by simp
  clear hm h8
  unfold tkv
  go_enter Tryz.func144,Tryz.ntmps144
  go_wp2_with fail
  generalize w.alloc (.cells #[.string t.nm,.int .i64 t.T,.int .i64 t.D,.int .i64 t.C,.int .i64 t.A,.int .i64 t.Seg,.int .i64 t.Cost,.int .i64 t.M,.int .i64 t.K,.int .i64 t.Mode,.int .i64 t.Prio] 41) = w1 at *
  have hb0:Below w1.heap.size w1 w1:=Below.refl _ _
  go_loopw [1,5] (fun sd so wx=>∃ k:Nat,(k:Int) ≤ np t d ∧ sd = .int .i64 (d - (k:Int) * t.Seg) ∧ Hid (wx.ownsRow w1.heap.size 3 1 so k (((partsT t d).take k).map ic)) ∧ Below w1.heap.size w1 wx ∧ 0 ≤ (k:Int) * t.Seg) (fun sd _ _=>(intOf sd).toNat)
  case atStart=>exact ⟨0,by omega,by simp,World.ownsRow_nil _ _ _ _,hb0,by simp⟩
  case round =>
   clear hb0
   obtain ⟨k,hk,rfl,HO,hb,hk0⟩:=hrel
   by_cases hlt:(k:Int) < np t d
   ·obtain ⟨h9,h10⟩:=HP.out k hlt
    have H10:=Lib.hid h10
    have hks:((k + 1:Nat):Int) * t.Seg = (k:Int) * t.Seg + t.Seg:=by rw [Int.natCast_succ,Int.add_mul,Int.one_mul]
    have HKS:=Lib.hid hks
    have hgt:decide (d - (k:Int) * t.Seg > 0) = true:=decide_eq_true (by omega)
    have hc5':=(hb.cell (p:=⟨w.heap.size,5,none⟩) hwl).trans hc5
    have hc6':=(hb.cell (p:=⟨w.heap.size,6,none⟩) hwl).trans hc6
    obtain ⟨a9,c9,rfl⟩:=ownsRow_form HO.out
    have hsz:=hb.size
    have hkl:k ≤ 1048576:=by omega
    clear h10 hks
    generalize (k:Int) * t.Seg = ks at *
    by_cases hmn:d - ks ≤ t.Seg
    ·skip
     have hm2:min (d - ks) t.Seg + t.Cost = d - ks + t.Cost:=by omega
     rw [hm2] at H10
     clear hm2
     go_wp2_with (at_builtin;refine wpList_append_own _ rfl _ _ 28 rfl w1.heap.size 3 i0 (.int .i64 0) 1 8 Tryz.underlying28 ki kz0 kz1 kz2 rfl (by decide) _ _ _ rfl (HO.out.alloc _) ⟨wr.heap.size,0,none⟩ 1 1 [.int .i64 (d - ks + t.Cost)] rfl rfl ?c1 ?c2 ?c3 ?c4 ?c5 ?_)
     try (case c1=>exact fun j u hu=>cell_new _ _ _ j u hu)
     case c2=>first | rfl | (intro u hu;simp at hu;rcases hu with rfl;rfl)
     case c3=>unfold maxLen;omega
     case c4=>omega
     case c5=>first | omega | (simp;omega)
     intro v' w5 hown1 hgrow _
     have hbel1:Below w1.heap.size wr w5:=(((Below.refl _ _).alloc hsz _).grown hgrow (by simp;omega) (fun j e=>ownsRow_block HO.out j e))
     have Hb1:=Lib.hid (hb.trans hbel1)
     have HO1:Hid (w5.ownsRow w1.heap.size 3 1 v' (k + 1) (((partsT t d).take (k + 1)).map ic)):=by
      show World.ownsRow _ _ _ _ _ _ _
      rw [H10.out,List.map_append];simpa [ic,List.map_take] using hown1
     have hc5'':=(Hb1.out.cell (p:=⟨w.heap.size,5,none⟩) hwl).trans hc5
     clear hown1 hgrow hbel1 hb hc5' hc6'
     go_wp2_with fail
     go_roundw
     case rel=>exact ⟨k + 1,by omega,by rw [HKS.out];congr 1;omega,HO1.out,Hb1.out,by rw [HKS.out];omega⟩
     case measure=>simp [intOf];omega
    ·skip
     have hm2:min (d - ks) t.Seg + t.Cost = t.Seg + t.Cost:=by omega
     rw [hm2] at H10
     clear hm2
     go_wp2_with (at_builtin;refine wpList_append_own _ rfl _ _ 28 rfl w1.heap.size 3 i0 (.int .i64 0) 1 8 Tryz.underlying28 ki kz0 kz1 kz2 rfl (by decide) _ _ _ rfl (HO.out.alloc _) ⟨wr.heap.size,0,none⟩ 1 1 [.int .i64 (t.Seg + t.Cost)] rfl rfl ?c1 ?c2 ?c3 ?c4 ?c5 ?_)
     try (case c1=>exact fun j u hu=>cell_new _ _ _ j u hu)
     case c2=>first | rfl | (intro u hu;simp at hu;rcases hu with rfl;rfl)
     case c3=>unfold maxLen;omega
     case c4=>omega
     case c5=>first | omega | (simp;omega)
     intro v' w5 hown1 hgrow _
     have hbel1:Below w1.heap.size wr w5:=(((Below.refl _ _).alloc hsz _).grown hgrow (by simp;omega) (fun j e=>ownsRow_block HO.out j e))
     have Hb1:=Lib.hid (hb.trans hbel1)
     have HO1:Hid (w5.ownsRow w1.heap.size 3 1 v' (k + 1) (((partsT t d).take (k + 1)).map ic)):=by
      show World.ownsRow _ _ _ _ _ _ _
      rw [H10.out,List.map_append];simpa [ic,List.map_take] using hown1
     have hc5'':=(Hb1.out.cell (p:=⟨w.heap.size,5,none⟩) hwl).trans hc5
     clear hown1 hgrow hbel1 hb hc5' hc6'
     go_wp2_with fail
     go_roundw
     case rel=>exact ⟨k + 1,by omega,by rw [HKS.out];congr 1;omega,HO1.out,Hb1.out,by rw [HKS.out];omega⟩
     case measure=>simp [intOf];omega
   ·have hle:=HE.out k (by omega)
    have hgt:decide (d - (k:Int) * t.Seg > 0) = false:=decide_eq_false (by omega)
    have hkl:k = (partsT t d).length:=by omega
    obtain ⟨a9,c9,rfl⟩:=ownsRow_form HO.out
    have Hb:=Lib.hid (hbw.trans (hb.mono hbw.size))
    clear hb
    subst hkl
    rw [List.take_length] at HO
    have HI:=Lib.hid (ints_of_own HO.out rfl)
    clear hpl
    generalize (((partsT t d).length:Nat):Int) * t.Seg = ks at *
    go_wp2_with fail
    go_ret
    exact ⟨a9,⟨c9,rfl⟩,HI.out,Hb.out⟩
 ·have hmb:(t.Mode == 1) = false:=by simpa using hm
  have hp1:partsT t d = [d + t.Cost]:=by
   unfold partsT np plen
   rw [if_neg hm]
   show (List.range 1).map _ = _
   simp [hm]
  rw [hp1]
  clear hm hp1
  unfold tkv
  go_enter Tryz.func144,Tryz.ntmps144
  go_wp2_with fail
  go_ret
  refine ⟨some ⟨w.heap.size + 1,0,none⟩,1,rfl,⟨rfl,fun _=>⟨w.heap.size + 1,0,rfl,by simp,fun j hj=>?_⟩⟩,bel_alloc (bel_alloc (Below.refl _ _) _) _⟩
  obtain rfl:j = 0:=by simpa using hj
  exact cell_newb _ _ _ _ 0 _ (by simp) rfl
end
section
open Go.RowKit
theorem rg_new (w:World) (cs:Array Value) (T:TypeId) (b:Nat) (hb:b = w.heap.size):(w.alloc (.cells cs T)).rangeAt b 0 cs.toList:=fun j v hj=>by
 rw [Nat.zero_add];exact cell_newb w cs T b j v hb hj
theorem rg_below {w w':World} {B b o:Nat} {cs:List Value} (h:Below B w w') (hb:b < B) (hc:w.rangeAt b o cs):w'.rangeAt b o cs:=fun j v hj=>(h.cell (p:=⟨b,o + j,none⟩) hb).trans (hc j v hj)
theorem rg_fr {F:Nat → Prop} {w w':World} {b o:Nat} {cs:List Value} (h:Fr F w w') (hb:b < w.heap.size) (hF:¬ F b) (hc:w.rangeAt b o cs):w'.rangeAt b o cs:=fun j v hj=>(h.cell (p:=⟨b,o + j,none⟩) hb hF).trans (hc j v hj)
theorem th_new (w:World) (cs:Array Value) (T:TypeId) (b n:Nat) (hb:b = w.heap.size) (hn:n ≤ cs.size):(w.alloc (.cells cs T)).there b 0 n:=fun j hj=>by
 subst hb
 rw [Nat.zero_add,cell_newb w cs T w.heap.size j (cs.toList[j]'(by simpa using Nat.lt_of_lt_of_le hj hn)) rfl (by simp)]
 exact ⟨rfl,by simp⟩
theorem th_below {w w':World} {B b o n:Nat} (h:Below B w w') (hb:b < B) (hc:w.there b o n):w'.there b o n:=fun j hj=>by
 obtain ⟨h1,h2⟩:=hc j hj
 rw [h.cell (p:=⟨b,o + j,none⟩) hb,h.frozen (p:=⟨b,o + j,none⟩) hb]
 exact ⟨h1,h2⟩
theorem rg_left {w:World} {b o:Nat} {xs ys:List Value} (h:w.rangeAt b o (xs ++ ys)):w.rangeAt b o xs:=fun j v hj=>by
 obtain ⟨hlt,_⟩:=List.getElem?_eq_some_iff.1 hj
 exact h j v (by rw [List.getElem?_append_left hlt];exact hj)
theorem rg_right {w:World} {b o:Nat} {xs ys:List Value} (h:w.rangeAt b o (xs ++ ys)):w.rangeAt b (o + xs.length) ys:=fun j v hj=>by
 have:=h (xs.length + j) v (by rw [List.getElem?_append_right (by omega),Nat.add_sub_cancel_left];exact hj)
 rwa [← Nat.add_assoc] at this
theorem rg_set {w:World} {b o k:Nat} {cs:List Value} {v:Value} (h:w.rangeAt b o cs) (hk:k < cs.length):(w.setCell ⟨b,o + k,none⟩ v).rangeAt b o (cs.set k v):=fun j u hj=>by
 by_cases e:j = k
 ·subst e
  rw [List.getElem?_set_self hk] at hj
  cases hj
  exact World.cell?_setCell_same _ _ _ (h j _ (List.getElem?_eq_getElem hk))
 ·rw [List.getElem?_set_ne (fun c=>e c.symm)] at hj
  rw [World.cell?_setCell_other _ _ _ _ (addr_ne (by omega))]
  exact h j u hj
theorem rg_set_ne {w:World} {b o b' o':Nat} {cs:List Value} {v:Value} (h:w.rangeAt b o cs) (hb:b' ≠ b):(w.setCell ⟨b',o',none⟩ v).rangeAt b o cs:=fun j u hj=>by
 rw [World.cell?_setCell_other _ _ _ _ (addr_ne' hb)];exact h j u hj
theorem th_set {w:World} {b o n:Nat} {a:Addr} {v:Value} (h:w.there b o n):(w.setCell a v).there b o n:=fun j hj=>by
 obtain ⟨h1,h2⟩:=h j hj
 refine ⟨?_,by rw [World.frozen?_setCell];exact h2⟩
 by_cases e:a = ⟨b,o + j,none⟩
 ·subst e
  obtain ⟨u,hu⟩:=Option.isSome_iff_exists.1 h1
  rw [World.cell?_setCell_same _ _ _ hu];rfl
 ·rw [World.cell?_setCell_other _ _ _ _ e];exact h1
theorem below_setCells {B b:Nat} {a:World} (hB:B ≤ b):∀ (l:List Value) (o:Nat) (w:World),Below B a w → Below B a (w.setCells b o l)
 | [],_,_,h=>h
 | v :: r,o,w,h=>below_setCells hB r (o + 1) _ (h.setCell hB v)
variable {P:Program}
theorem res_cell {fn:Func} {p:Tmp} {ty:TypeId} (h:fn.results = #[.cell p ty]) (tmps:Array Value) (w:World) (b:Nat) (cs:List Value) (d:TypeDesc) (hp:tmps.getD p undef = .pointer (some ⟨b,0,none⟩))
  (hc:w.rangeAt b 0 cs) (hu:P.underlying ty = some d) (hd:d.isRow = true) (hi:(P.info? ty).map (·.size) = some cs.length):(results fn tmps).run P w = .ok (.agg cs.toArray) w:=by
 have hp':tmps[p]?.getD undef = .pointer (some ⟨b,0,none⟩):=by rw [← hp];simp
 unfold results
 rw [h]
 simp [Sem.run_bind,hp',asAddr,run_loadVar_mid w b 0 ty cs d hc hu hd hi]
theorem res_cell_tmp {fn:Func} {p q:Tmp} {ty:TypeId} (h:fn.results = #[.cell p ty,.tmp q]) (tmps:Array Value) (w:World) (b:Nat) (cs:List Value) (d:TypeDesc) (hp:tmps.getD p undef = .pointer (some ⟨b,0,none⟩))
  (hc:w.rangeAt b 0 cs) (hu:P.underlying ty = some d) (hd:d.isRow = true) (hi:(P.info? ty).map (·.size) = some cs.length):(results fn tmps).run P w = .ok (.tuple #[.agg cs.toArray,tmps.getD q undef]) w:=by
 have hp':tmps[p]?.getD undef = .pointer (some ⟨b,0,none⟩):=by rw [← hp];simp
 unfold results
 rw [h]
 simp [Sem.run_bind,hp',asAddr,run_loadVar_mid w b 0 ty cs d hc hu hd hi]
end
section
open Go.RowKit
attribute [local go_sem ↓] Go.wp_at_zero Go.wp_at_succ
def rnv (t:Tk) (j:Jb):Value:=.agg #[.string t.nm,.int .i64 t.T,.int .i64 t.D,.int .i64 t.C,.int .i64 t.A,.int .i64 t.Seg,.int .i64 t.Cost,.int .i64 t.M,.int .i64 t.K,.int .i64 t.Mode,.int .i64 t.Prio,.int .i64 j.dem,.int .i64 j.part,.int .i64 j.left,.bool j.struck,.int .i64 j.fails]
def jbv (i:Int) (t:Tk) (j:Jb):Value:=.agg #[.int .i64 i,.int .i64 j.no,.int .i64 j.rel,.int .i64 (j.rel + t.D),.bool j.must,.bool j.over,.bool j.begun,.string t.nm,.int .i64 t.T,.int .i64 t.D,.int .i64 t.C,.int .i64 t.A,.int .i64 t.Seg,.int .i64 t.Cost,.int .i64 t.M,.int .i64 t.K,.int .i64 t.Mode,.int .i64 t.Prio,.int .i64 j.dem,.int .i64 j.part,.int .i64 j.left,.bool j.struck,.int .i64 j.fails]
theorem urgent_any (t:Tk) (j:Jb) (w:World):Calls Tryz.prog 151 #[rnv t j] w fun e w'=>e = .returned (.bool (urg t j)) ∧ Below w.heap.size w w':=by
 unfold rnv urg
 by_cases hm:t.Mode = 3
 ·have hmb:(t.Mode == 3) = true:=by simpa using hm
  have e:decide (t.Mode = 3 ∧ j.part = 1) = (j.part == 1):=by rw [Bool.eq_iff_iff];simp [hm]
  rw [e]
  clear hm e
  go_enter Tryz.func151,Tryz.ntmps151
  go_wp2
  go_ret
  exact ⟨by simp,bel_alloc (Below.refl _ _) _⟩
 ·have hmb:(t.Mode == 3) = false:=by simpa using hm
  have e:decide (t.Mode = 3 ∧ j.part = 1) = false:=by simp [hm]
  rw [e]
  clear hm e
  go_enter Tryz.func151,Tryz.ntmps151
  go_wp2
  go_ret
  exact ⟨by simp,bel_alloc (Below.refl _ _) _⟩
theorem band_any (i:Int) (t:Tk) (j:Jb) (w:World):Calls Tryz.prog 105 #[jbv i t j] w fun e w'=>e = .returned (.int .i64 (bandJ t j)) ∧ Below w.heap.size w w':=by
 have HU:=Lib.hid fun W=>urgent_any t j W
 unfold jbv bandJ
 unfold rnv at *
 cases hm:j.must
 ·go_enter Tryz.func105,Tryz.ntmps105
  go_wp2
  go_ret
  exact ⟨by simp,bel_alloc (Below.refl _ _) _⟩
 ·cases hu:urg t j
  ·rw [hu] at HU
   go_enter Tryz.func105,Tryz.ntmps105
   go_wp2_with fail
   refine (HU.out _).mono ?_
   rintro e w1 ⟨rfl,hb1⟩
   have hb:Below w.heap.size w w1:=(bel_alloc (Below.refl _ _) _).trans (hb1.mono (by simp))
   go_wp2_with fail
   go_ret
   exact ⟨by simp,hb⟩
  ·rw [hu] at HU
   go_enter Tryz.func105,Tryz.ntmps105
   go_wp2_with fail
   refine (HU.out _).mono ?_
   rintro e w1 ⟨rfl,hb1⟩
   have hb:Below w.heap.size w w1:=(bel_alloc (Below.refl _ _) _).trans (hb1.mono (by simp))
   go_wp2_with fail
   go_ret
   exact ⟨by simp,hb⟩
theorem late_any (i:Int) (t:Tk) (j:Jb) (now:Int) (w:World):Calls Tryz.prog 59 #[jbv i t j,.int .i64 now] w fun e w'=>e = .returned (.bool (decide ((j.rel:Int) + t.D ≤ now))) ∧ Below w.heap.size w w':=by
 unfold jbv
 go_enter Tryz.func59,Tryz.ntmps59
 go_wp2
 go_ret
 exact ⟨by simp,bel_alloc (Below.refl _ _) _⟩
theorem Tryz.size57:(Tryz.prog.info? 57).map (·.size) = some 16:=by kernel_rfl
theorem failed_any (t:Tk) (ht:t.Ok) (j:Jb) (hj:1 ≤ j.dem ∧ j.dem ≤ t.C ∧ 0 ≤ j.part ∧ (t.Mode = 1 → j.part < np t j.dem)) (hf:0 ≤ j.fails ∧ j.fails ≤ 1099511627776) (w:World) :
  Calls Tryz.prog 152 #[rnv t j] w fun e w'=>e = .returned (.tuple #[rnv t (if t.Mode = 1 then { j with left:=plen t j.dem j.part,struck:=false,fails:=j.fails + 1 } else { j with part:=1,left:=t.A + t.Cost,struck:=false,fails:=j.fails + 1 }),.int .i64 (if t.Mode = 1 then 2 else if t.Mode = 3 ∧ j.part ≠ 1 then 3 else 2)]) ∧ Below w.heap.size w w':=by
 have h0:=ht.k0
 have h01:=ht.k1
 have h3:=ht.cd
 have h4:=ht.dt
 have h5:=ht.tm
 obtain ⟨f0,f1⟩:=hf
 by_cases hm:t.Mode = 1
 ·have HPa:=Lib.hid fun W=>parts_any t ht j.dem W hj.1 hj.2.1
  unfold rnv
  simp only [if_pos hm]
  unfold tkv at HPa
  have hmb:(t.Mode == 1) = true:=by simpa using hm
  have hp0:=hj.2.2.1
  obtain ⟨pn,hpn⟩:∃ pn:Nat,j.part = (pn:Int):=⟨j.part.toNat,by omega⟩
  have hpl:pn < (partsT t j.dem).length:=by rw [partsT_length];have:=hj.2.2.2 hm;omega
  have HPL:=Lib.hid (partsT_at t j.dem pn hpl)
  have hpi:(pn:Int) < ((partsT t j.dem).length:Int):=by omega
  have q1:w.heap.size < ((w.alloc (.cells #[.string t.nm,.int .i64 t.T,.int .i64 t.D,.int .i64 t.C,.int .i64 t.A,.int .i64 t.Seg,.int .i64 t.Cost,.int .i64 t.M,.int .i64 t.K,.int .i64 t.Mode,.int .i64 t.Prio,.int .i64 j.dem,.int .i64 (pn:Int),.int .i64 j.left,.bool false,.int .i64 (j.fails + 1)] 57)).alloc (.cells #[.string ⟨#[]⟩,.int .i64 0,.int .i64 0,.int .i64 0,.int .i64 0,.int .i64 0,.int .i64 0,.int .i64 0,.int .i64 0,.int .i64 0,.int .i64 0,.int .i64 0,.int .i64 0,.int .i64 0,.bool false,.int .i64 0] 57)).heap.size:=by simp <;> omega
  have q2:w.heap.size + 1 < ((w.alloc (.cells #[.string t.nm,.int .i64 t.T,.int .i64 t.D,.int .i64 t.C,.int .i64 t.A,.int .i64 t.Seg,.int .i64 t.Cost,.int .i64 t.M,.int .i64 t.K,.int .i64 t.Mode,.int .i64 t.Prio,.int .i64 j.dem,.int .i64 (pn:Int),.int .i64 j.left,.bool false,.int .i64 (j.fails + 1)] 57)).alloc (.cells #[.string ⟨#[]⟩,.int .i64 0,.int .i64 0,.int .i64 0,.int .i64 0,.int .i64 0,.int .i64 0,.int .i64 0,.int .i64 0,.int .i64 0,.int .i64 0,.int .i64 0,.int .i64 0,.int .i64 0,.bool false,.int .i64 0] 57)).heap.size:=by simp <;> omega
  have HB0:Hid (∀ W,Below ((w.alloc (.cells #[.string t.nm,.int .i64 t.T,.int .i64 t.D,.int .i64 t.C,.int .i64 t.A,.int .i64 t.Seg,.int .i64 t.Cost,.int .i64 t.M,.int .i64 t.K,.int .i64 t.Mode,.int .i64 t.Prio,.int .i64 j.dem,.int .i64 (pn:Int),.int .i64 j.left,.bool false,.int .i64 (j.fails + 1)] 57)).alloc (.cells #[.string ⟨#[]⟩,.int .i64 0,.int .i64 0,.int .i64 0,.int .i64 0,.int .i64 0,.int .i64 0,.int .i64 0,.int .i64 0,.int .i64 0,.int .i64 0,.int .i64 0,.int .i64 0,.int .i64 0,.bool false,.int .i64 0] 57)).heap.size ((w.alloc (.cells #[.string t.nm,.int .i64 t.T,.int .i64 t.D,.int .i64 t.C,.int .i64 t.A,.int .i64 t.Seg,.int .i64 t.Cost,.int .i64 t.M,.int .i64 t.K,.int .i64 t.Mode,.int .i64 t.Prio,.int .i64 j.dem,.int .i64 (pn:Int),.int .i64 j.left,.bool false,.int .i64 (j.fails + 1)] 57)).alloc (.cells #[.string ⟨#[]⟩,.int .i64 0,.int .i64 0,.int .i64 0,.int .i64 0,.int .i64 0,.int .i64 0,.int .i64 0,.int .i64 0,.int .i64 0,.int .i64 0,.int .i64 0,.int .i64 0,.int .i64 0,.bool false,.int .i64 0] 57)) W → W.rangeAt w.heap.size 0 [.string t.nm,.int .i64 t.T,.int .i64 t.D,.int .i64 t.C,.int .i64 t.A,.int .i64 t.Seg,.int .i64 t.Cost,.int .i64 t.M,.int .i64 t.K,.int .i64 t.Mode,.int .i64 t.Prio,.int .i64 j.dem,.int .i64 (pn:Int),.int .i64 j.left,.bool false,.int .i64 (j.fails + 1)] ∧ W.there w.heap.size 0 16 ∧ W.there (w.heap.size + 1) 0 16):=fun W hW =>
   ⟨rg_below hW q1 (World.rangeAt_alloc (rg_new w _ _ _ rfl) _),th_below hW q1 (World.there_alloc (th_new w _ _ _ 16 rfl (by simp)) _),th_below hW q2 (th_new _ _ _ _ 16 (by simp) (by simp))⟩
  have hbb:Below w.heap.size w ((w.alloc (.cells #[.string t.nm,.int .i64 t.T,.int .i64 t.D,.int .i64 t.C,.int .i64 t.A,.int .i64 t.Seg,.int .i64 t.Cost,.int .i64 t.M,.int .i64 t.K,.int .i64 t.Mode,.int .i64 t.Prio,.int .i64 j.dem,.int .i64 (pn:Int),.int .i64 j.left,.bool false,.int .i64 (j.fails + 1)] 57)).alloc (.cells #[.string ⟨#[]⟩,.int .i64 0,.int .i64 0,.int .i64 0,.int .i64 0,.int .i64 0,.int .i64 0,.int .i64 0,.int .i64 0,.int .i64 0,.int .i64 0,.int .i64 0,.int .i64 0,.int .i64 0,.bool false,.int .i64 0] 57)):=bel_alloc (bel_alloc (Below.refl _ _) _) _
  rw [hpn]
  clear hpn hj
  rw [← HPL.out]
  clear hm HPL
  go_enter Tryz.func152,Tryz.ntmps152
  go_wp2_with fail
  generalize (w.alloc (.cells #[.string t.nm,.int .i64 t.T,.int .i64 t.D,.int .i64 t.C,.int .i64 t.A,.int .i64 t.Seg,.int .i64 t.Cost,.int .i64 t.M,.int .i64 t.K,.int .i64 t.Mode,.int .i64 t.Prio,.int .i64 j.dem,.int .i64 (pn:Int),.int .i64 j.left,.bool false,.int .i64 (j.fails + 1)] 57)).alloc (.cells #[.string ⟨#[]⟩,.int .i64 0,.int .i64 0,.int .i64 0,.int .i64 0,.int .i64 0,.int .i64 0,.int .i64 0,.int .i64 0,.int .i64 0,.int .i64 0,.int .i64 0,.int .i64 0,.int .i64 0,.bool false,.int .i64 0] 57) = w3 at *
  have hb3:Below w3.heap.size w3 w3:=Below.refl _ _
  have HPb:Hid (∀ W,Below w3.heap.size w3 W → Calls Tryz.prog 144 #[.agg #[.string t.nm,.int .i64 t.T,.int .i64 t.D,.int .i64 t.C,.int .i64 t.A,.int .i64 t.Seg,.int .i64 t.Cost,.int .i64 t.M,.int .i64 t.K,.int .i64 t.Mode,.int .i64 t.Prio],.int .i64 j.dem] W fun e w'=>∃ (a:Option Addr) (c:Nat),e = .returned (.slice a (partsT t j.dem).length c) ∧ IntsIn w'.heap.size w' a (partsT t j.dem).length (partsT t j.dem) ∧ Below w3.heap.size w3 w'):=fun W hW=>(HPa.out W).mono fun e w' ⟨a,c,h1,h2,h3⟩=>⟨a,c,h1,h2,hW.trans (h3.mono hW.size)⟩
  have HQ:Hid (∀ W,Below w3.heap.size w3 W → (W.setCell ⟨w.heap.size,13,none⟩ (.int .i64 (partsT t j.dem)[pn])).rangeAt w.heap.size 0 [.string t.nm,.int .i64 t.T,.int .i64 t.D,.int .i64 t.C,.int .i64 t.A,.int .i64 t.Seg,.int .i64 t.Cost,.int .i64 t.M,.int .i64 t.K,.int .i64 t.Mode,.int .i64 t.Prio,.int .i64 j.dem,.int .i64 (pn:Int),.int .i64 (partsT t j.dem)[pn],.bool false,.int .i64 (j.fails + 1)] ∧ (W.setCell ⟨w.heap.size,13,none⟩ (.int .i64 (partsT t j.dem)[pn])).there (w.heap.size + 1) 0 16 ∧ Below w.heap.size w (W.setCell ⟨w.heap.size,13,none⟩ (.int .i64 (partsT t j.dem)[pn]))):=fun W hW=>by
   obtain ⟨h1,h2,h3⟩:=HB0.out W hW
   refine ⟨?_,th_set h3,(hbb.trans (hW.mono (by omega))).setCell (Nat.le_refl _) _⟩
   have:=rg_set (k:=13) (v:=.int .i64 (partsT t j.dem)[pn]) h1 (by simp)
   rw [Nat.zero_add] at this
   exact this
  clear HPa
  go_cut [] (fun wx=>wx.rangeAt w.heap.size 0 [.string t.nm,.int .i64 t.T,.int .i64 t.D,.int .i64 t.C,.int .i64 t.A,.int .i64 t.Seg,.int .i64 t.Cost,.int .i64 t.M,.int .i64 t.K,.int .i64 t.Mode,.int .i64 t.Prio,.int .i64 j.dem,.int .i64 (pn:Int),.int .i64 (partsT t j.dem)[pn],.bool false,.int .i64 (j.fails + 1)] ∧ wx.there (w.heap.size + 1) 0 16 ∧ Below w.heap.size w wx)
  case first =>
    have c0:=(HB0.out _ hb3).1 0 _ rfl
    have c1:=(HB0.out _ hb3).1 1 _ rfl
    have c2:=(HB0.out _ hb3).1 2 _ rfl
    have c3:=(HB0.out _ hb3).1 3 _ rfl
    have c4:=(HB0.out _ hb3).1 4 _ rfl
    have c5:=(HB0.out _ hb3).1 5 _ rfl
    have c6:=(HB0.out _ hb3).1 6 _ rfl
    have c7:=(HB0.out _ hb3).1 7 _ rfl
    have c8:=(HB0.out _ hb3).1 8 _ rfl
    have c9:=(HB0.out _ hb3).1 9 _ rfl
    have c10:=(HB0.out _ hb3).1 10 _ rfl
    have c11:=(HB0.out _ hb3).1 11 _ rfl
    have c12:=(HB0.out _ hb3).1 12 _ rfl
    have c13:=(HB0.out _ hb3).1 13 _ rfl
    have c14:=(HB0.out _ hb3).1 14 _ rfl
    have c15:=(HB0.out _ hb3).1 15 _ rfl
    simp only [Nat.zero_add] at c0 c1 c2 c3 c4 c5 c6 c7 c8 c9 c10 c11 c12 c13 c14 c15
    as_aux_lemma =>
    go_region_law (go_simp;go_at_call 144;refine Calls.mono (HPb.out _ (by first | assumption | exact bel_drewN hb3 _ | exact bel_drew hb3)) ?_;rintro e w4 ⟨a4,c4,rfl,hI4,hb4⟩;obtain ⟨b4,o4,rfl,_,hc4⟩:=hI4.2 (by omega);have hcp:=hc4 pn hpl;have h13:=(HB0.out _ hb4).1 13 _ rfl;have h12:=(HB0.out _ hb4).1 12 _ rfl;have hf13:=((HB0.out _ hb4).2.1 13 (by decide)).2;simp only [Nat.zero_add] at h13 h12 hf13)
    all_goals
     (try go_wp2_with fail)
     go_meet
     case rel=>exact HQ.out _ (by assumption)
  case rest =>
   obtain ⟨hra,hth,hbe⟩:=hcut
   clear HQ HB0 HPb
   as_aux_lemma =>
   go_wp2_with (first | (refine wpList_load_mid rfl 57 _ rfl w.heap.size 0 rfl _ _ hra Tryz.underlying57 rfl Tryz.size57 ?_) | (refine wpList_store_mid rfl 57 _ _ rfl (w.heap.size + 1) 0 _ rfl rfl hth Tryz.size57 (by simp [Value.oneCell']) ?_))
   exact bodyPost_ret (res_cell_tmp (by rfl) _ _ (w.heap.size + 1) [.string t.nm,.int .i64 t.T,.int .i64 t.D,.int .i64 t.C,.int .i64 t.A,.int .i64 t.Seg,.int .i64 t.Cost,.int .i64 t.M,.int .i64 t.K,.int .i64 t.Mode,.int .i64 t.Prio,.int .i64 j.dem,.int .i64 (pn:Int),.int .i64 (partsT t j.dem)[pn],.bool false,.int .i64 (j.fails + 1)] _ rfl (World.rangeAt_setCells_same _ _ _ _ hth) Tryz.underlying57 rfl Tryz.size57) rfl ⟨rfl,below_setCells (by omega) _ _ _ hbe⟩
 ·obtain ⟨h6,h7,h7z⟩:=ht.r2 hm
  clear h7z
  unfold rnv
  simp only [if_neg hm]
  have hmb:(t.Mode == 1) = false:=by simpa using hm
  by_cases h8:t.Mode = 3 ∧ j.part ≠ 1
  ·rw [if_pos h8]
   have hm3:(t.Mode == 3) = true:=by simpa using h8.1
   have hp1:(j.part != 1) = true:=by simpa using h8.2
   clear hm h8
   as_aux_lemma =>
    go_enter Tryz.func152,Tryz.ntmps152
    go_wp2
    exact bodyPost_ret (v:=.tuple #[.agg #[.string t.nm,.int .i64 t.T,.int .i64 t.D,.int .i64 t.C,.int .i64 t.A,.int .i64 t.Seg,.int .i64 t.Cost,.int .i64 t.M,.int .i64 t.K,.int .i64 t.Mode,.int .i64 t.Prio,.int .i64 j.dem,.int .i64 1,.int .i64 (t.A + t.Cost),.bool false,.int .i64 (j.fails + 1)],.int .i64 3]) (by simp [results,go_sem]) rfl ⟨rfl,bel_alloc (bel_alloc (Below.refl _ _) _) _⟩
  ·rw [if_neg h8]
   by_cases h9:t.Mode = 3
   ·have hm3:(t.Mode == 3) = true:=by simpa using h9
    have hp1:(j.part != 1) = false:=by
     by_cases e:j.part = 1
     ·simpa using e
     ·exact absurd ⟨h9,e⟩ h8
    clear hm h8 h9
    go_enter Tryz.func152,Tryz.ntmps152
    go_wp2
    exact bodyPost_ret (v:=.tuple #[.agg #[.string t.nm,.int .i64 t.T,.int .i64 t.D,.int .i64 t.C,.int .i64 t.A,.int .i64 t.Seg,.int .i64 t.Cost,.int .i64 t.M,.int .i64 t.K,.int .i64 t.Mode,.int .i64 t.Prio,.int .i64 j.dem,.int .i64 1,.int .i64 (t.A + t.Cost),.bool false,.int .i64 (j.fails + 1)],.int .i64 2]) (by simp [results,go_sem]) rfl ⟨rfl,bel_alloc (bel_alloc (Below.refl _ _) _) _⟩
   ·have hm3:(t.Mode == 3) = false:=by simpa using h9
    clear hm h8 h9
    go_enter Tryz.func152,Tryz.ntmps152
    go_wp2
    exact bodyPost_ret (v:=.tuple #[.agg #[.string t.nm,.int .i64 t.T,.int .i64 t.D,.int .i64 t.C,.int .i64 t.A,.int .i64 t.Seg,.int .i64 t.Cost,.int .i64 t.M,.int .i64 t.K,.int .i64 t.Mode,.int .i64 t.Prio,.int .i64 j.dem,.int .i64 1,.int .i64 (t.A + t.Cost),.bool false,.int .i64 (j.fails + 1)],.int .i64 2]) (by simp [results,go_sem]) rfl ⟨rfl,bel_alloc (bel_alloc (Below.refl _ _) _) _⟩
end
section
open Go.RowKit
attribute [local go_sem ↓] Go.wp_at_zero Go.wp_at_succ
def rcells (t:Tk) (j:Jb):List Value:=[.string t.nm,.int .i64 t.T,.int .i64 t.D,.int .i64 t.C,.int .i64 t.A,.int .i64 t.Seg,.int .i64 t.Cost,.int .i64 t.M,.int .i64 t.K,.int .i64 t.Mode,.int .i64 t.Prio,.int .i64 j.dem,.int .i64 j.part,.int .i64 j.left,.bool j.struck,.int .i64 j.fails]
theorem rnv_cells (t:Tk) (j:Jb):rnv t j = .agg (rcells t j).toArray:=rfl
theorem rcells_one (t:Tk) (j:Jb):(rcells t j).toArray.all (·.oneCell') = true:=by simp [rcells,Value.oneCell']
theorem rstep_struck (t:Tk) (ht:t.Ok) (j:Jb) (hj:JbOk t j) (hf:0 ≤ j.fails ∧ j.fails ≤ 1099511627776) (hl:j.left = 1) (hit:Bool) (w:World) (hs:(j.struck || hit) = true) (J:Jb) (what:Int)
  (hJ:(if t.Mode = 1 then { j with left:=plen t j.dem j.part,struck:=false,fails:=j.fails + 1 } else { j with part:=1,left:=t.A + t.Cost,struck:=false,fails:=j.fails + 1 }) = J) (hw:(if t.Mode = 1 then (2:Int) else if t.Mode = 3 ∧ j.part ≠ 1 then 3 else 2) = what) :
  Calls Tryz.prog 106 #[rnv t j,.bool hit] w fun e w'=>e = .returned (.tuple #[rnv t J,.int .i64 what]) ∧ Below w.heap.size w w':=by
 obtain ⟨f0,f1⟩:=hf
 have hF:∀ W,Calls Tryz.prog 152 #[rnv t { j with left:=0,struck:=true }] W fun e w'=>e = .returned (.tuple #[rnv t J,.int .i64 what]) ∧ Below W.heap.size W w':=fun W=>by
  have:=failed_any t ht { j with left:=0,struck:=true } ⟨hj.d1,hj.dc,hj.p0,hj.pr⟩ ⟨f0,f1⟩ W
  rw [← hJ,← hw]
  by_cases hm:t.Mode = 1
  ·simp only [if_pos hm] at this ⊢;exact this
  ·simp only [if_neg hm] at this ⊢;exact this
 have HF:=Lib.hid hF
 have h1:=ht.cd
 clear hF hJ hw hj
 rw [rnv_cells t J]
 generalize hrc:rcells t J = rc at *
 have hone:rc.toArray.all (·.oneCell') = true:=by rw [← hrc];exact rcells_one t J
 have hlen:rc.length = 16:=by rw [← hrc];rfl
 have HR:Hid (rnv t J = .agg rc.toArray):=by show rnv t J = _;rw [rnv_cells,hrc]
 unfold rnv at HF ⊢
 rw [hl]
 have hsz:∀ (a b:Obj),w.heap.size + 1 < ((w.alloc a).alloc b).heap.size:=fun a b=>by simp
 have hbl:∀ (a b:Obj),Below w.heap.size w ((w.alloc a).alloc b):=fun a b=>bel_alloc (bel_alloc (Below.refl _ _) _) _
 cases h2:j.struck <;> cases hit
 ·rw [h2] at hs;cases hs
 all_goals
  clear hs h2
  as_aux_lemma =>
  go_enter Tryz.func106,Tryz.ntmps106
  go_wp2_with fail
  refine (HF.out _).mono ?_
  rintro e w4 ⟨rfl,hb4⟩
  have hth:w4.there (w.heap.size + 1) 0 16:=th_below hb4 (hsz _ _) (th_new _ _ _ _ 16 (by simp) (by simp))
  have hbe:Below w.heap.size w w4:=(hbl _ _).trans (hb4.mono (by simp <;> omega))
  have HR2:=HR.out
  unfold rnv at HR2
  rw [HR2]
  clear hb4 hsz hbl HR2 HR HF
  go_wp2_with (first | (refine wpList_store_mid rfl 57 _ _ rfl (w.heap.size + 1) 0 _ rfl rfl (by simpa [hlen] using hth) (by rw [List.size_toArray,hlen];exact Tryz.size57) hone ?_))
  exact bodyPost_ret (res_cell_tmp (by rfl) _ _ (w.heap.size + 1) rc _ rfl (World.rangeAt_setCells_same _ _ _ _ (by rw [hlen];exact hth)) Tryz.underlying57 rfl (by rw [hlen];exact Tryz.size57)) rfl ⟨rfl,below_setCells (by omega) _ _ _ hbe⟩
theorem rstep_runs (t:Tk) (j:Jb) (hl:1 < j.left) (hl2:j.left ≤ 1099511627776) (hit:Bool) (w:World) :
  Calls Tryz.prog 106 #[rnv t j,.bool hit] w fun e w'=>e = .returned (.tuple #[rnv t { j with left:=j.left - 1,struck:=j.struck || hit },.int .i64 0]) ∧ Below w.heap.size w w':=by
 unfold rnv
 have hd:decide (j.left - 1 > 0) = true:=decide_eq_true (by omega)
 have hth:∀ (a:Obj),(w.alloc a |>.alloc (.cells #[.string ⟨#[]⟩,.int .i64 0,.int .i64 0,.int .i64 0,.int .i64 0,.int .i64 0,.int .i64 0,.int .i64 0,.int .i64 0,.int .i64 0,.int .i64 0,.int .i64 0,.int .i64 0,.int .i64 0,.bool false,.int .i64 0] 57)).there (w.heap.size + 1) 0 16:=fun a=>th_new _ _ _ _ 16 (by simp) (by simp)
 cases h2:j.struck <;> cases hit
 all_goals
  clear h2
  as_aux_lemma =>
  go_enter Tryz.func106,Tryz.ntmps106
  go_wp2_with (first | (refine wpList_load_mid rfl 57 _ rfl w.heap.size 0 rfl _ _ (World.rangeAt_alloc (rg_new w _ _ _ rfl) _) Tryz.underlying57 rfl Tryz.size57 ?_) | (refine wpList_store_mid rfl 57 _ _ rfl (w.heap.size + 1) 0 _ rfl rfl (hth _) Tryz.size57 (by simp [Value.oneCell']) ?_))
  exact bodyPost_ret (res_cell_tmp (by rfl) _ _ (w.heap.size + 1) _ _ rfl (World.rangeAt_setCells_same _ _ _ _ (hth _)) Tryz.underlying57 rfl Tryz.size57) rfl ⟨rfl,below_setCells (by omega) _ _ _ (bel_alloc (bel_alloc (Below.refl _ _) _) _)⟩
end
end Go.Proofs.YtnoahekcemfmcaaGreatDoor
