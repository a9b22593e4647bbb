/- A part of the walk: Vb. -/
import Derived.Test.YtnoahekcemfmcaaGreatDoorR03
import Derived.Test.YtnoahekcemfmcaaGreatDoorR09
namespace Go.Proofs.YtnoahekcemfmcaaGreatDoor
set_option linter.unusedVariables false
set_option linter.unusedSimpArgs false
set_option maxHeartbeats 80000000
set_option maxRecDepth 100000
section
open Go.RowKit
theorem dear_any (B:Nat) (bu:Int) (a:Option Addr) (n c:Nat) (tk:Nat → Tk) (i:Nat) (w:World) (hx:TksIn B w a n tk) (hB:B ≤ w.heap.size) (hn:n ≤ 16) (hi:i < n) (hok:∀ k,k < n → (tk k).Ok) :
  Calls Tryz.prog 118 #[.agg #[.int .i64 bu,.slice a n c],.int .i64 i] w fun e w'=>e = .returned (.int .i64 (dearS tk n i)) ∧ Below w.heap.size w w':=by
 have hb0:=bel_alloc (Below.refl w.heap.size w) (.cells #[.int .i64 bu,.slice a n c] 24)
 have hbox1:=cell_newb w #[.int .i64 bu,.slice a n c] 24 _ 1 _ rfl rfl
 have hsz:=one_lt w (.cells #[.int .i64 bu,.slice a n c] 24)
 have hx1:=Lib.hid (hx.keep (hb0.mono hB))
 have HB0:=Lib.hid hb0
 have HOK:=Lib.hid hok
 have hnI:(n:Int) ≤ 16:=by omega
 have hiI:(i:Int) < (n:Int):=by omega
 have hi0:(0:Int) ≤ (i:Int):=by omega
 clear hx hb0 hok
 go_enter Tryz.func118,Tryz.ntmps118
 go_wp2_with fail
 generalize w.alloc (.cells #[.int .i64 bu,.slice a n c] 24) = w1 at hbox1 hsz hx1 HB0 ⊢
 go_loopw [11,5,7] (fun ix s5 s7 wx=>∃ k:Nat,k ≤ n ∧ ix = .int .i64 k ∧ s5 = .int .i64 (maxS (dearF tk i) k) ∧ Hid (Below w1.heap.size w1 wx)) (fun ix _ _ _=>n - (intOf ix).toNat)
 case atStart=>exact ⟨0,Nat.zero_le _,rfl,rfl,Below.refl _ _⟩
 case round =>
  obtain ⟨k,hk,rfl,rfl,HB⟩:=hrel
  by_cases hlt:k < n
  ·have hkI:(k:Int) < (n:Int):=by omega
   have hk0:(0:Int) ≤ (k:Int):=by omega
   have hdl:decide ((k:Int) < (n:Int)) = true:=decide_eq_true hkI
   have hxr:=hx1.out.keep (HB.out.mono (Nat.le_trans hB HB0.out.size))
   obtain ⟨b,off,rfl,hbB,hcc⟩:=hxr (by omega)
   have hq:=hcc k hlt
   have hth:=th_new wr #[.string ⟨#[]⟩,.int .i64 0,.int .i64 0,.int .i64 0,.int .i64 0,.int .i64 0,.int .i64 0,.int .i64 0,.int .i64 0,.int .i64 0,.int .i64 0] 41 wr.heap.size 11 rfl (by simp)
   have hrg:=World.rangeAt_setCells_same _ _ _ (tkc (tk k)) hth
   have hbt:=below_setCells (Nat.le_refl _) (tkc (tk k)) 0 _ (bel_alloc (Below.refl wr.heap.size wr) (.cells #[.string ⟨#[]⟩,.int .i64 0,.int .i64 0,.int .i64 0,.int .i64 0,.int .i64 0,.int .i64 0,.int .i64 0,.int .i64 0,.int .i64 0,.int .i64 0] 41))
   have hszt:wr.heap.size < ((wr.alloc (.cells #[.string ⟨#[]⟩,.int .i64 0,.int .i64 0,.int .i64 0,.int .i64 0,.int .i64 0,.int .i64 0,.int .i64 0,.int .i64 0,.int .i64 0,.int .i64 0] 41)).setCells wr.heap.size 0 (tkc (tk k))).heap.size:=by rw [size_setCells];simp
   have hpi:((wr.alloc (.cells #[.string ⟨#[]⟩,.int .i64 0,.int .i64 0,.int .i64 0,.int .i64 0,.int .i64 0,.int .i64 0,.int .i64 0,.int .i64 0,.int .i64 0,.int .i64 0] 41)).setCells wr.heap.size 0 (tkc (tk k))).cell? ⟨b,off + i * 11 + 10,none⟩ = some (.int .i64 (tk i).Prio):=cell_bel hbt (hcc i hi 10 _ rfl)
   have hb1:((wr.alloc (.cells #[.string ⟨#[]⟩,.int .i64 0,.int .i64 0,.int .i64 0,.int .i64 0,.int .i64 0,.int .i64 0,.int .i64 0,.int .i64 0,.int .i64 0,.int .i64 0] 41)).setCells wr.heap.size 0 (tkc (tk k))).cell? ⟨w.heap.size,1,none⟩ = some (.slice (some ⟨b,off,none⟩) n c):=cell_bel hbt (cell_bel HB.out hbox1)
   have hp9:((wr.alloc (.cells #[.string ⟨#[]⟩,.int .i64 0,.int .i64 0,.int .i64 0,.int .i64 0,.int .i64 0,.int .i64 0,.int .i64 0,.int .i64 0,.int .i64 0,.int .i64 0] 41)).setCells wr.heap.size 0 (tkc (tk k))).cell? ⟨wr.heap.size,9,none⟩ = some (.int .i64 (tk k).Mode):=hrg 9 _ rfl
   have hp10:((wr.alloc (.cells #[.string ⟨#[]⟩,.int .i64 0,.int .i64 0,.int .i64 0,.int .i64 0,.int .i64 0,.int .i64 0,.int .i64 0,.int .i64 0,.int .i64 0,.int .i64 0] 41)).setCells wr.heap.size 0 (tkc (tk k))).cell? ⟨wr.heap.size,10,none⟩ = some (.int .i64 (tk k).Prio):=hrg 10 _ rfl
   have HBT:=Lib.hid hbt
   have HE:=Lib.hid (extra_any (tk k) (HOK.out k hlt))
   have hm0:=maxS_nonneg (dearF tk i) k
   have hm1:maxS (dearF tk i) k ≤ 1049576:=maxS_le (by omega) fun j hj=>by unfold dearF;have:=extra_bd (HOK.out j (by omega));split <;> omega
   have hex:=extra_bd (HOK.out k hlt)
   have HST:Hid (maxS (dearF tk i) (k + 1) = max (maxS (dearF tk i) k) (if (tk k).Prio ≤ (tk i).Prio ∨ (tk k).Mode = 3 then extraT (tk k) else 0)):=by show _ = _;rfl
   clear hxr hcc hbt
   by_cases hc:(tk k).Prio ≤ (tk i).Prio
   ·have d1:decide ((tk k).Prio ≤ (tk i).Prio) = true:=decide_eq_true hc
    have HC:Hid ((tk k).Prio ≤ (tk i).Prio ∨ (tk k).Mode = 3):=.inl hc
    clear hc
    rw [if_pos HC.out] at HST
    go_upto_region 5 with (first | (refine wpList_load_mid rfl 41 _ rfl b (off + k * 11) rfl (tkc (tk k)) _ hq Tryz.underlying41 rfl Tryz.size41 ?_) | (refine wpList_store_mid rfl 41 _ _ rfl wr.heap.size 0 (tkc (tk k)).toArray rfl rfl hth Tryz.size41 (by simp [Value.oneCell',tkc]) ?_;try simp only [List.toList_toArray];generalize ((wr.alloc (.cells #[.string ⟨#[]⟩,.int .i64 0,.int .i64 0,.int .i64 0,.int .i64 0,.int .i64 0,.int .i64 0,.int .i64 0,.int .i64 0,.int .i64 0,.int .i64 0] 41)).setCells wr.heap.size 0 (tkc (tk k))) = wt at hrg hszt hpi hb1 hp9 hp10 HBT ⊢;clear hq hth))
    have hbl:b < wt.heap.size:=block_lt hpi
    have hwl:w.heap.size < wt.heap.size:=block_lt hb1
    go_wp2_with fail
    go_quiet (fail)
    go_wp2_with (first | (refine wpList_load_mid rfl 41 _ rfl wr.heap.size 0 rfl (tkc (tk k)) _ hrg Tryz.underlying41 rfl Tryz.size41 ?_) | (go_at_call 164;refine (HE.out _).mono ?_;rintro e w5 ⟨rfl,hb5⟩;have HB5:=Lib.hid (HB.out.trans ((HBT.out.trans (((bel_drewN (Below.refl wt.heap.size wt) _).mono HBT.out.size).trans (hb5.mono (Nat.le_trans HBT.out.size (Nat.le_refl _))))).mono HB.out.size));clear hb5))
    go_roundw
    case rel=>exact ⟨k + 1,by omega,by simp,by rw [HST.out],HB5⟩
    case measure=>simp [intOf];omega
   ·have d1:decide ((tk k).Prio ≤ (tk i).Prio) = false:=decide_eq_false hc
    by_cases hm:(tk k).Mode = 3
    ·have d2:((tk k).Mode == 3) = true:=beq_iff_eq.2 hm
     have HC:Hid ((tk k).Prio ≤ (tk i).Prio ∨ (tk k).Mode = 3):=.inr hm
     clear hc hm
     rw [if_pos HC.out] at HST
     go_upto_region 5 with (first | (refine wpList_load_mid rfl 41 _ rfl b (off + k * 11) rfl (tkc (tk k)) _ hq Tryz.underlying41 rfl Tryz.size41 ?_) | (refine wpList_store_mid rfl 41 _ _ rfl wr.heap.size 0 (tkc (tk k)).toArray rfl rfl hth Tryz.size41 (by simp [Value.oneCell',tkc]) ?_;try simp only [List.toList_toArray];generalize ((wr.alloc (.cells #[.string ⟨#[]⟩,.int .i64 0,.int .i64 0,.int .i64 0,.int .i64 0,.int .i64 0,.int .i64 0,.int .i64 0,.int .i64 0,.int .i64 0,.int .i64 0] 41)).setCells wr.heap.size 0 (tkc (tk k))) = wt at hrg hszt hpi hb1 hp9 hp10 HBT ⊢;clear hq hth))
     have hbl:b < wt.heap.size:=block_lt hpi
     have hwl:w.heap.size < wt.heap.size:=block_lt hb1
     go_wp2_with fail
     go_quiet (fail)
     go_wp2_with (first | (refine wpList_load_mid rfl 41 _ rfl wr.heap.size 0 rfl (tkc (tk k)) _ hrg Tryz.underlying41 rfl Tryz.size41 ?_) | (go_at_call 164;refine (HE.out _).mono ?_;rintro e w5 ⟨rfl,hb5⟩;have HB5:=Lib.hid (HB.out.trans ((HBT.out.trans (((bel_drewN (Below.refl wt.heap.size wt) _).mono HBT.out.size).trans (hb5.mono (Nat.le_trans HBT.out.size (Nat.le_refl _))))).mono HB.out.size));clear hb5))
     go_roundw
     case rel=>exact ⟨k + 1,by omega,by simp,by rw [HST.out],HB5⟩
     case measure=>simp [intOf];omega
    ·have d2:((tk k).Mode == 3) = false:=beq_eq_false_iff_ne.2 hm
     have HC:Hid (¬ ((tk k).Prio ≤ (tk i).Prio ∨ (tk k).Mode = 3)):=fun t=>t.elim hc hm
     clear hc hm
     rw [if_neg HC.out] at HST
     go_upto_region 5 with (first | (refine wpList_load_mid rfl 41 _ rfl b (off + k * 11) rfl (tkc (tk k)) _ hq Tryz.underlying41 rfl Tryz.size41 ?_) | (refine wpList_store_mid rfl 41 _ _ rfl wr.heap.size 0 (tkc (tk k)).toArray rfl rfl hth Tryz.size41 (by simp [Value.oneCell',tkc]) ?_;try simp only [List.toList_toArray];generalize ((wr.alloc (.cells #[.string ⟨#[]⟩,.int .i64 0,.int .i64 0,.int .i64 0,.int .i64 0,.int .i64 0,.int .i64 0,.int .i64 0,.int .i64 0,.int .i64 0,.int .i64 0] 41)).setCells wr.heap.size 0 (tkc (tk k))) = wt at hrg hszt hpi hb1 hp9 hp10 HBT ⊢;clear hq hth))
     have hbl:b < wt.heap.size:=block_lt hpi
     have hwl:w.heap.size < wt.heap.size:=block_lt hb1
     go_wp2_with fail
     go_quiet (fail)
     go_wp2_with fail
     go_roundw
     case rel=>exact ⟨k + 1,by omega,by simp,by rw [HST.out,Int.max_eq_left hm0],HB.out.trans ((HBT.out.trans ((bel_drewN (Below.refl wt.heap.size wt) _).mono HBT.out.size)).mono HB.out.size)⟩
     case measure=>simp [intOf];omega
  ·have hkn:k = n:=by omega
   subst hkn
   have hdl:decide ((k:Int) < (k:Int)) = false:=decide_eq_false (by omega)
   go_wp2_with fail
   go_ret
   exact ⟨rfl,HB0.out.trans (HB.out.mono HB0.out.size)⟩
theorem ahead_any (B:Nat) (bu:Int) (a:Option Addr) (n c:Nat) (tk:Nat → Tk) (i:Nat) (w:World) (hx:TksIn B w a n tk) (hB:B ≤ w.heap.size) (hn:n ≤ 16) (hi:i < n) (hok:∀ k,k < n → (tk k).Ok) :
  Calls Tryz.prog 114 #[.agg #[.int .i64 bu,.slice a n c],.int .i64 i] w fun e w'=>e = .returned (.int .i64 (aheadS tk n i)) ∧ Below w.heap.size w w':=by
 have hb0:=bel_alloc (Below.refl w.heap.size w) (.cells #[.int .i64 bu,.slice a n c] 24)
 have hbox1:=cell_newb w #[.int .i64 bu,.slice a n c] 24 _ 1 _ rfl rfl
 have hsz:=one_lt w (.cells #[.int .i64 bu,.slice a n c] 24)
 have hx1:=Lib.hid (hx.keep (hb0.mono hB))
 have HB0:=Lib.hid hb0
 have HOK:=Lib.hid hok
 have hnI:(n:Int) ≤ 16:=by omega
 have hiI:(i:Int) < (n:Int):=by omega
 have hi0:(0:Int) ≤ (i:Int):=by omega
 clear hx hb0 hok
 go_enter Tryz.func114,Tryz.ntmps114
 go_wp2_with fail
 generalize w.alloc (.cells #[.int .i64 bu,.slice a n c] 24) = w1 at hbox1 hsz hx1 HB0 ⊢
 go_loopw [11,5,7] (fun ix s5 s7 wx=>∃ k:Nat,k ≤ n ∧ ix = .int .i64 k ∧ s5 = .int .i64 (maxS (aheadF tk i) k) ∧ Hid (Below w1.heap.size w1 wx)) (fun ix _ _ _=>n - (intOf ix).toNat)
 case atStart=>exact ⟨0,Nat.zero_le _,rfl,rfl,Below.refl _ _⟩
 case round =>
  obtain ⟨k,hk,rfl,rfl,HB⟩:=hrel
  by_cases hlt:k < n
  ·have hkI:(k:Int) < (n:Int):=by omega
   have hk0:(0:Int) ≤ (k:Int):=by omega
   have hdl:decide ((k:Int) < (n:Int)) = true:=decide_eq_true hkI
   have hxr:=hx1.out.keep (HB.out.mono (Nat.le_trans hB HB0.out.size))
   obtain ⟨b,off,rfl,hbB,hcc⟩:=hxr (by omega)
   have hq:=hcc k hlt
   have hth:=th_new wr #[.string ⟨#[]⟩,.int .i64 0,.int .i64 0,.int .i64 0,.int .i64 0,.int .i64 0,.int .i64 0,.int .i64 0,.int .i64 0,.int .i64 0,.int .i64 0] 41 wr.heap.size 11 rfl (by simp)
   have hrg:=World.rangeAt_setCells_same _ _ _ (tkc (tk k)) hth
   have hbt:=below_setCells (Nat.le_refl _) (tkc (tk k)) 0 _ (bel_alloc (Below.refl wr.heap.size wr) (.cells #[.string ⟨#[]⟩,.int .i64 0,.int .i64 0,.int .i64 0,.int .i64 0,.int .i64 0,.int .i64 0,.int .i64 0,.int .i64 0,.int .i64 0,.int .i64 0] 41))
   have hszt:wr.heap.size < ((wr.alloc (.cells #[.string ⟨#[]⟩,.int .i64 0,.int .i64 0,.int .i64 0,.int .i64 0,.int .i64 0,.int .i64 0,.int .i64 0,.int .i64 0,.int .i64 0,.int .i64 0] 41)).setCells wr.heap.size 0 (tkc (tk k))).heap.size:=by rw [size_setCells];simp
   have hpi:((wr.alloc (.cells #[.string ⟨#[]⟩,.int .i64 0,.int .i64 0,.int .i64 0,.int .i64 0,.int .i64 0,.int .i64 0,.int .i64 0,.int .i64 0,.int .i64 0,.int .i64 0] 41)).setCells wr.heap.size 0 (tkc (tk k))).cell? ⟨b,off + i * 11 + 10,none⟩ = some (.int .i64 (tk i).Prio):=cell_bel hbt (hcc i hi 10 _ rfl)
   have hb1:((wr.alloc (.cells #[.string ⟨#[]⟩,.int .i64 0,.int .i64 0,.int .i64 0,.int .i64 0,.int .i64 0,.int .i64 0,.int .i64 0,.int .i64 0,.int .i64 0,.int .i64 0] 41)).setCells wr.heap.size 0 (tkc (tk k))).cell? ⟨w.heap.size,1,none⟩ = some (.slice (some ⟨b,off,none⟩) n c):=cell_bel hbt (cell_bel HB.out hbox1)
   have hp9:((wr.alloc (.cells #[.string ⟨#[]⟩,.int .i64 0,.int .i64 0,.int .i64 0,.int .i64 0,.int .i64 0,.int .i64 0,.int .i64 0,.int .i64 0,.int .i64 0,.int .i64 0] 41)).setCells wr.heap.size 0 (tkc (tk k))).cell? ⟨wr.heap.size,9,none⟩ = some (.int .i64 (tk k).Mode):=hrg 9 _ rfl
   have hp10:((wr.alloc (.cells #[.string ⟨#[]⟩,.int .i64 0,.int .i64 0,.int .i64 0,.int .i64 0,.int .i64 0,.int .i64 0,.int .i64 0,.int .i64 0,.int .i64 0,.int .i64 0] 41)).setCells wr.heap.size 0 (tkc (tk k))).cell? ⟨wr.heap.size,10,none⟩ = some (.int .i64 (tk k).Prio):=hrg 10 _ rfl
   have HBT:=Lib.hid hbt
   have HE:=Lib.hid (extra_any (tk k) (HOK.out k hlt))
   have hm0:=maxS_nonneg (aheadF tk i) k
   have hm1:maxS (aheadF tk i) k ≤ 1049576:=maxS_le (by omega) fun j hj=>by unfold aheadF;have:=extra_bd (HOK.out j (by omega));split <;> omega
   have hex:=extra_bd (HOK.out k hlt)
   have HST:Hid (maxS (aheadF tk i) (k + 1) = max (maxS (aheadF tk i) k) (if (tk i).Prio ≤ (tk k).Prio ∧ (tk k).Mode = 3 then extraT (tk k) else 0)):=by show _ = _;rfl
   clear hxr hcc hbt
   by_cases hc:(tk i).Prio ≤ (tk k).Prio
   ·have d1:decide ((tk k).Prio ≥ (tk i).Prio) = true:=decide_eq_true hc
    by_cases hm:(tk k).Mode = 3
    ·have d2:((tk k).Mode == 3) = true:=beq_iff_eq.2 hm
     have HC:Hid ((tk i).Prio ≤ (tk k).Prio ∧ (tk k).Mode = 3):=⟨hc,hm⟩
     clear hc hm
     rw [if_pos HC.out] at HST
     go_upto_region 5 with (first | (refine wpList_load_mid rfl 41 _ rfl b (off + k * 11) rfl (tkc (tk k)) _ hq Tryz.underlying41 rfl Tryz.size41 ?_) | (refine wpList_store_mid rfl 41 _ _ rfl wr.heap.size 0 (tkc (tk k)).toArray rfl rfl hth Tryz.size41 (by simp [Value.oneCell',tkc]) ?_;try simp only [List.toList_toArray];generalize ((wr.alloc (.cells #[.string ⟨#[]⟩,.int .i64 0,.int .i64 0,.int .i64 0,.int .i64 0,.int .i64 0,.int .i64 0,.int .i64 0,.int .i64 0,.int .i64 0,.int .i64 0] 41)).setCells wr.heap.size 0 (tkc (tk k))) = wt at hrg hszt hpi hb1 hp9 hp10 HBT ⊢;clear hq hth))
     have hbl:b < wt.heap.size:=block_lt hpi
     have hwl:w.heap.size < wt.heap.size:=block_lt hb1
     go_wp2_with fail
     go_quiet (fail)
     go_wp2_with (first | (refine wpList_load_mid rfl 41 _ rfl wr.heap.size 0 rfl (tkc (tk k)) _ hrg Tryz.underlying41 rfl Tryz.size41 ?_) | (go_at_call 164;refine (HE.out _).mono ?_;rintro e w5 ⟨rfl,hb5⟩;have HB5:=Lib.hid (HB.out.trans ((HBT.out.trans (((bel_drewN (Below.refl wt.heap.size wt) _).mono HBT.out.size).trans (hb5.mono (Nat.le_trans HBT.out.size (Nat.le_refl _))))).mono HB.out.size));clear hb5))
     go_roundw
     case rel=>exact ⟨k + 1,by omega,by simp,by rw [HST.out],HB5⟩
     case measure=>simp [intOf];omega
    ·have d2:((tk k).Mode == 3) = false:=beq_eq_false_iff_ne.2 hm
     have HC:Hid (¬ ((tk i).Prio ≤ (tk k).Prio ∧ (tk k).Mode = 3)):=fun t=>hm t.2
     clear hc hm
     rw [if_neg HC.out] at HST
     go_upto_region 5 with (first | (refine wpList_load_mid rfl 41 _ rfl b (off + k * 11) rfl (tkc (tk k)) _ hq Tryz.underlying41 rfl Tryz.size41 ?_) | (refine wpList_store_mid rfl 41 _ _ rfl wr.heap.size 0 (tkc (tk k)).toArray rfl rfl hth Tryz.size41 (by simp [Value.oneCell',tkc]) ?_;try simp only [List.toList_toArray];generalize ((wr.alloc (.cells #[.string ⟨#[]⟩,.int .i64 0,.int .i64 0,.int .i64 0,.int .i64 0,.int .i64 0,.int .i64 0,.int .i64 0,.int .i64 0,.int .i64 0,.int .i64 0] 41)).setCells wr.heap.size 0 (tkc (tk k))) = wt at hrg hszt hpi hb1 hp9 hp10 HBT ⊢;clear hq hth))
     have hbl:b < wt.heap.size:=block_lt hpi
     have hwl:w.heap.size < wt.heap.size:=block_lt hb1
     go_wp2_with fail
     go_quiet (fail)
     go_wp2_with fail
     go_roundw
     case rel=>exact ⟨k + 1,by omega,by simp,by rw [HST.out,Int.max_eq_left hm0],HB.out.trans ((HBT.out.trans ((bel_drewN (Below.refl wt.heap.size wt) _).mono HBT.out.size)).mono HB.out.size)⟩
     case measure=>simp [intOf];omega
   ·have d1:decide ((tk k).Prio ≥ (tk i).Prio) = false:=decide_eq_false hc
    have HC:Hid (¬ ((tk i).Prio ≤ (tk k).Prio ∧ (tk k).Mode = 3)):=fun t=>hc t.1
    clear hc
    rw [if_neg HC.out] at HST
    go_upto_region 5 with (first | (refine wpList_load_mid rfl 41 _ rfl b (off + k * 11) rfl (tkc (tk k)) _ hq Tryz.underlying41 rfl Tryz.size41 ?_) | (refine wpList_store_mid rfl 41 _ _ rfl wr.heap.size 0 (tkc (tk k)).toArray rfl rfl hth Tryz.size41 (by simp [Value.oneCell',tkc]) ?_;try simp only [List.toList_toArray];generalize ((wr.alloc (.cells #[.string ⟨#[]⟩,.int .i64 0,.int .i64 0,.int .i64 0,.int .i64 0,.int .i64 0,.int .i64 0,.int .i64 0,.int .i64 0,.int .i64 0,.int .i64 0] 41)).setCells wr.heap.size 0 (tkc (tk k))) = wt at hrg hszt hpi hb1 hp9 hp10 HBT ⊢;clear hq hth))
    have hbl:b < wt.heap.size:=block_lt hpi
    have hwl:w.heap.size < wt.heap.size:=block_lt hb1
    go_wp2_with fail
    go_quiet (fail)
    go_wp2_with fail
    go_roundw
    case rel=>exact ⟨k + 1,by omega,by simp,by rw [HST.out,Int.max_eq_left hm0],HB.out.trans ((HBT.out.trans ((bel_drewN (Below.refl wt.heap.size wt) _).mono HBT.out.size)).mono HB.out.size)⟩
    case measure=>simp [intOf];omega
  ·have hkn:k = n:=by omega
   subst hkn
   have hdl:decide ((k:Int) < (k:Int)) = false:=decide_eq_false (by omega)
   go_wp2_with fail
   go_ret
   exact ⟨rfl,HB0.out.trans (HB.out.mono HB0.out.size)⟩
end
end Go.Proofs.YtnoahekcemfmcaaGreatDoor
