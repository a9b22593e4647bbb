/- A part of the walk: Nf. -/
import Derived.Test.YtnoahekcemfmcaaGreatDoorR45
import Derived.Test.YtnoahekcemfmcaaGreatDoorR46
import Derived.Test.YtnoahekcemfmcaaGreatDoorR48
import Derived.Test.YtnoahekcemfmcaaGreatDoorR49
import Derived.Test.YtnoahekcemfmcaaGreatDoorR01
namespace Go.Proofs.YtnoahekcemfmcaaGreatDoor
set_option linter.unusedVariables false
set_option linter.unusedSimpArgs false
set_option maxHeartbeats 80000000
set_option maxRecDepth 100000
section
open Go.RowKit
theorem ticks_few {tk:Nat → Tk} {n:Nat} {l:List (List (Int × Int) × Bool)} {s s':St} {ev:List Ev} (h:Ticks tk n s l s' ev):ev.length ≤ l.length * (n + 2) + relsN l:=by
 induction h with
 | nil=>simp
 | snoc _ h2 ih =>
  have:=events_few h2
  unfold relsN at *
  simp only [List.length_append,List.map_append,List.sum_append,List.map_cons,List.map_nil,List.sum_cons,List.sum_nil,List.length_cons,List.length_nil]
  rw [Nat.add_mul]
  omega
theorem evs_row {w:World} {base:Nat} {a:Option Addr} {c:Nat} {L:List Ev} (h:w.ownsRow base 44 5 (.slice a L.length c) L.length (L.flatMap evc)) (j:Nat) (hj:j < L.length):∃ g,a = some ⟨g,0,none⟩ ∧ w.rangeAt g (j * 5) (evc L[j]) ∧ g < w.heap.size:=by
 obtain ⟨g,cap,hv,hg1,hg2,hg3,hg4,hg5⟩:=ownsRow_cells h (by omega)
 simp at hv
 obtain ⟨rfl,rfl⟩:=hv
 refine ⟨g,rfl,fun i u hu=>?_,hg2⟩
 have hi:i < 5:=(List.getElem?_eq_some_iff.1 hu).1
 exact hg4 _ _ ((flatMap_at evc 5 (fun _=>rfl) L j i hj hi).trans hu)
def bools (l:List Bool):List Value:=l.map fun b=>.bool b
theorem bools_snoc (l:List Bool) (b:Bool):bools (l ++ [b]) = bools l ++ [.bool b]:=by simp [bools]
theorem cntT_take {L:List Bool} {d:Nat} (h:d < L.length):cntT (L.take (d + 1)) = cntT (L.take d) + if L[d] = true then 1 else 0:=by
 rw [take_more L d h,cntT_append]
 congr 1
 unfold cntT
 cases L[d] <;> simp
theorem cntT_bd (L:List Bool):0 ≤ cntT L ∧ cntT L ≤ L.length:=by
 unfold cntT
 have:=List.length_filter_le id L
 omega
theorem metL_take {ev:List Ev} {k:Nat} (h:k < ev.length) (i:Int):metL (ev.take (k + 1)) i = metL (ev.take k) i ++ (match metE i ev[k] with | none=>[] | some b=>[b]):=by
 rw [take_more ev k h,metL_snoc]
 rfl
theorem metL_len (ev:List Ev) (i:Int):(metL ev i).length ≤ ev.length:=by
 unfold metL
 exact List.length_filterMap_le _ _
theorem firm_walk (B:Nat) (bu:Int) (a:Option Addr) (n c:Nat) (tk:Nat → Tk) (aa:Option Addr) (ca:Nat) (A:List AskT) (deep:Bool) (w:World) (hx:TksIn B w a n tk) (ha:AsksIn B w aa A) (hB:B ≤ w.heap.size) (hn:n ≤ 9223372036854775807) (hnc:n ≤ c) (hA:A.length ≤ 9223372036854775807)
  (hAb:∀ x ∈ A,0 ≤ x.1 ∧ x.1 < 65536 ∧ 0 ≤ x.2.1 ∧ x.2.1 < 256) :
  Calls Tryz.prog 3 #[.agg #[.int .i64 bu,.slice a n c],.bool deep,.slice aa A.length ca] w fun e w'=>e = .returned (.bool true) ∧ Below w.heap.size w w':=by
 have hmo:Tryz.prog.follows .mixedOrders = true:=by kernel_rfl
 have hb0:=bel_alloc (Below.refl w.heap.size w) (.cells #[.int .i64 bu,.slice a n c] 24)
 have x0:=cell_newb w #[.int .i64 bu,.slice a n c] 24 _ 0 _ rfl rfl
 have x1:=cell_newb w #[.int .i64 bu,.slice a n c] 24 _ 1 _ rfl rfl
 have H8:Hid (∀ W,Below w.heap.size w W → Calls Tryz.prog 8 #[.agg #[.int .i64 bu,.slice a n c]] W fun e w'=>RetB e (SetOk bu n tk) ∧ Below W.heap.size W w'):=fun W hW=>small_any B bu a n c tk W (hx.keep (hW.mono hB)) (by have:=hW.size;omega) hn
 have HX:=Lib.hid hx
 have HA:=Lib.hid ha
 have HAB:=Lib.hid hAb
 have HB0:=Lib.hid hb0
 clear hx ha hAb hb0
 go_enter Tryz.func3,Tryz.ntmps3
 go_upto_region 3 with (first
  |(go_at_call 7;refine (awake_is _).mono ?_;rintro e w7 ⟨rfl,hq7⟩;have HQ7:=Lib.hid (by first | exact HQ8.out.trans (hq7.mono HQ8.out.size) | exact HB0.out.trans (hq7.mono HB0.out.size));have x0:=cell_bel hq7 x0;have x1:=cell_bel hq7 x1;clear hq7)
  |(go_at_call 8;refine (H8.out _ HQ7.out).mono ?_;rintro e w8 ⟨⟨b2,rfl,hb2⟩,hq8⟩;have HS2:=Lib.hid hb2;have HQ8:=Lib.hid (HQ7.out.trans (hq8.mono HQ7.out.size));have x0:=cell_bel hq8 x0;have x1:=cell_bel hq8 x1;clear hq8 hb2))
 all_goals first
  |(go_ret;exact ⟨rfl,HQ7.out⟩)
  | skip
 have hS:=HS2.out (by first | rfl | assumption)
 have hl4:A.length ≤ 400:=by omega
 have hB8:B ≤ w8.heap.size:=Nat.le_trans hB HQ8.out.size
 have HSS:=Lib.hid hS
 have HXW:Hid (∀ W,Below w.heap.size w W → TksIn B W a n tk):=fun W hW=>HX.out.keep (hW.mono hB)
 by_cases hlm:leastS tk n bu < maxGap
 ·have HL:Hid (Calls Tryz.prog 9 #[.agg #[.int .i64 bu,.slice a n c]] w8 fun e w'=>∃ late rb,e = .returned (.tuple #[.int .i64 ((leastS tk n bu:Nat) + 1),.agg #[.bool true,.int .i64 late,.slice (some ⟨rb,0,none⟩) n n],.int .i64 0]) ∧ Below w8.heap.size w8 w') :=
   (least_any B bu a n c tk w8 hS (HXW.out _ HQ8.out) hB8 hnc).mono (by
    rintro e w' ⟨late,rb,h1,h2,⟨_,rfl,_⟩ | ⟨h3,_⟩⟩
    ·exact ⟨late,rb,rfl,h1⟩
    ·omega)
  have hjt:=(leastS_law tk n bu).2.1 hlm
  obtain ⟨g,hg⟩:∃ g:Int,((leastS tk n bu:Nat):Int) + 1 = g:=⟨_,rfl⟩
  have hmg:maxGap ≤ 1049576:=by decide
  have hg1:1 ≤ g:=by omega
  have hg2:g ≤ 1049576:=by omega
  rw [hg] at hjt HL
  clear hS HS2 H8
  go_upto_region 6 with (go_at_call 9;refine HL.out.mono ?_;rintro e w9 ⟨late,rb,rfl,hq9⟩;have HQ9:=Lib.hid (HQ8.out.trans (hq9.mono HQ8.out.size));have x0:=cell_bel hq9 x0;have x1:=cell_bel hq9 x1;clear hq9 HL)
  have HB10:Hid (Below w.heap.size w (w9.alloc (.cells #[.bool true,.int .i64 late,.slice (some ⟨rb,0,none⟩) n n] 30))):=HQ9.out.trans ((bel_alloc (Below.refl _ _) _).mono HQ9.out.size)
  have y0:=cell_bel (bel_alloc (Below.refl w9.heap.size w9) (.cells #[.bool true,.int .i64 late,.slice (some ⟨rb,0,none⟩) n n] 30)) x0
  have y1:=cell_bel (bel_alloc (Below.refl w9.heap.size w9) (.cells #[.bool true,.int .i64 late,.slice (some ⟨rb,0,none⟩) n n] 30)) x1
  generalize w9.alloc (.cells #[.bool true,.int .i64 late,.slice (some ⟨rb,0,none⟩) n n] 30) = w10 at *
  clear x0 x1
  have hB10:B ≤ w10.heap.size:=Nat.le_trans hB HB10.out.size
  have HM:=Lib.hid (made_is B bu g a n c tk aa ca A w10 HSS.out (HXW.out _ HB10.out) (HA.out.keep hB (Fr.of_below (S:=fun _=>False) HB10.out) (fun _ _ t=>t)) hB10 hnc hl4 HAB.out hg1 hg2)
  go_upto_region 7 with (go_at_call 10;refine HM.out.mono ?_;rintro e w11 ⟨ai,ci,rfl,hi11,hq11⟩;have HI11:=Lib.hid hi11;have HB11:=Lib.hid (HB10.out.trans (hq11.mono HB10.out.size));have x0:=cell_bel hq11 y0;have x1:=cell_bel hq11 y1;clear hq11 hi11 HM y0 y1)
  obtain ⟨kd,hkd,HK⟩:∃ kd:Int,(kd = 1 ∨ kd = 2) ∧ Hid (∀ W,Calls Tryz.prog 12 #[.bool deep] W fun e w'=>e = .returned (.int .i64 kd) ∧ w' = W):=by
   cases deep
   ·exact ⟨1,.inl rfl,fun W=>kind_is false W⟩
   ·exact ⟨2,.inr rfl,fun W=>kind_is true W⟩
  have hB11:B ≤ w11.heap.size:=Nat.le_trans hB HB11.out.size
  have hn16:=HSS.out.n2
  have hfew:relsN (madeT tk n bu g A A.length) ≤ 100000:=Nat.le_trans (madeT_few tk n bu g A A.length) (Nat.le_trans (Nat.mul_le_mul hl4 hn16) (by decide))
  have HRUN:Hid (∀ W,Below w11.heap.size w11 W → Calls Tryz.prog 11 #[.agg #[.int .i64 bu,.slice a n c],.int .i64 kd,.slice ai A.length ci] W fun e w'=>∃ v s' ev,e = .returned (.tuple #[v,.int .i64 0]) ∧ Ticks tk n (St0 tk) (madeT tk n bu g A A.length) s' ev ∧ w'.ownsRow W.heap.size 44 5 v ev.length (ev.flatMap evc) ∧ Below W.heap.size W w'):=fun W hW=>by
   have h:=srun_even w11.heap.size bu a n c tk ai ci (madeT tk n bu g A A.length) W HSS.out (fun h0=>by obtain ⟨b,off,e,hlt,hc⟩:=HXW.out _ (HB11.out.trans (hW.mono HB11.out.size)) h0;exact ⟨b,off,e,Nat.lt_of_lt_of_le hlt hB11,hc⟩) (HI11.out.keep (Nat.le_refl _) (Fr.of_below (S:=fun _=>False) hW) (fun _ _ t=>t)) hW.size hnc (by rw [madeT_len];omega) hfew kd hkd
   rwa [madeT_len] at h
  refine wp_region_held_drew (S:=fun W=>W.cell? ⟨w.heap.size,0,none⟩ = some (.int .i64 bu) ∧ W.cell? ⟨w.heap.size,1,none⟩ = some (.slice a n c) ∧ Below w11.heap.size w11 W) (by kernel_rfl) ?hS0 (fun hHeld=>?_)
  case hS0=>exact ⟨x0,x1,bel_drew (Below.refl _ _)⟩
  refine wtk (i:=0) ?_
  try simp only [Act.put,List.setIfInBounds_toArray,List.set]
  refine wtk (i:=1) ?_
  try simp only [Act.put,List.setIfInBounds_toArray,List.set]
  refine wtk (i:=3) ?_
  try simp only [Act.put,List.setIfInBounds_toArray,List.set]
  refine wpAnyH_ready (rs:=[2]) (by kernel_rfl) (by simp) ?_
  refine arc (fun K hK=>?_) AllReadyH.nil
  go_simp
  go_at_call 12
  refine (HK.out _).mono ?_
  rintro e w12 ⟨rfl,rfl⟩
  refine hK.out _ _ ?hS1 (fun hHeld2=>?hr1)
  case hS1=>exact hHeld
  clear hK K hHeld2
  try simp only [Act.put,List.setIfInBounds_toArray,List.set]
  refine wpAnyH_ready (rs:=[4]) (by kernel_rfl) (by simp) ?_
  refine arc (fun K hK=>?_) AllReadyH.nil
  go_simp
  go_at_call 11
  refine (HRUN.out _ hHeld.2.2).mono ?_
  rintro e w13 ⟨v,s',ev,rfl,ht,ho,hq13⟩
  refine hK.out _ _ ?hS2 (fun hHeld2=>?hr2)
  case hS2=>exact ⟨cell_bel hq13 hHeld.1,cell_bel hq13 hHeld.2.1,hHeld.2.2.trans (hq13.mono hHeld.2.2.size)⟩
  have HT:=Lib.hid ht
  have HO:=Lib.hid (own_base ho hHeld.2.2.size)
  clear hK K hHeld hq13 ht ho
  have hHeld:=hHeld2
  clear hHeld2
  try simp only [Act.put,List.setIfInBounds_toArray,List.set]
  refine wtk (i:=5) ?_
  try simp only [Act.put,List.setIfInBounds_toArray,List.set]
  refine wtk (i:=6) ?_
  try simp only [Act.put,List.setIfInBounds_toArray,List.set]
  refine wtk (i:=7) ?_
  try simp only [Act.put,List.setIfInBounds_toArray,List.set]
  refine wtk (i:=8) ?_
  try simp only [Act.put,List.setIfInBounds_toArray,List.set]
  refine wtk (i:=9) ?_
  try simp only [Act.put,List.setIfInBounds_toArray,List.set]
  refine wpAnyH_done (by kernel_rfl) ?_ _
  obtain ⟨_,_,_,hFI⟩:=made_run HSS.out hg1 g (Int.le_refl _) hjt A (fun x hx=>(HAB.out x hx).2.2.1) False (fun h=>h.elim) HT.out
  have HFI:=Lib.hid hFI
  clear hFI
  have hevl:=ticks_few HT.out
  rw [madeT_len] at hevl
  have hA2:A.length * (n + 2) ≤ 400 * 18:=Nat.mul_le_mul hl4 (by omega)
  have hev2:ev.length ≤ 107200:=by omega
  obtain ⟨av,cv,hv⟩:=ownsRow_form HO.out
  subst hv
  have HE:Hid (∀ W,Below w13.heap.size w13 W → ∀ j (hj:j < ev.length),∃ g,av = some ⟨g,0,none⟩ ∧ W.rangeAt g (j * 5) (evc ev[j])):=fun W hW j hj=>by
   obtain ⟨g,e,hr,hl⟩:=evs_row HO.out j hj
   exact ⟨g,e,rg_below hW hl hr⟩
  have HB13:Hid (Below w.heap.size w w13):=HB11.out.trans (hHeld.2.2.mono HB11.out.size)
  have HH:=Lib.hid hHeld
  obtain ⟨i4,ki4,kz41,kz42,kz43⟩:=info_parts Tryz.info4
  have hnI:(n:Int) ≤ 16:=by omega
  clear hHeld HRUN HK HI11 x0 x1
  go_upto_region 11 with fail
  go_loopw [13] (fun ix wx=>∃ i:Nat,i ≤ n ∧ ix = .int .i64 i ∧ Hid (Below w13.heap.size w13 wx)) (fun ix _=>n - (intOf ix).toNat)
  case atStart=>exact ⟨0,Nat.zero_le _,rfl,Below.refl _ _⟩
  case round =>
   obtain ⟨i,hi,rfl,HW⟩:=hrel
   have hbox:=cell_bel HW.out HH.out.2.1
   by_cases hil:i < n
   ·have hiI:(i:Int) < (n:Int):=by omega
    have hi0:(0:Int) ≤ (i:Int):=by omega
    have hdi:decide ((i:Int) < (n:Int)) = true:=decide_eq_true hiI
    obtain ⟨tb,toff,rfl,htB,htc⟩:=(HXW.out _ (HB13.out.trans (HW.out.mono HB13.out.size))) (by omega)
    have hq:=htc i hil
    have hth:=th_new wr #[.string ⟨#[]⟩,.int .i64 0,.int .i64 0,.int .i64 0,.int .i64 0,.int .i64 0,.int .i64 0,.int .i64 0,.int .i64 0,.int .i64 0,.int .i64 0] 41 wr.heap.size 11 rfl (by simp)
    have hrg:=Lib.hid (World.rangeAt_setCells_same _ _ _ (tkc (tk i)) hth)
    have hbt:=Lib.hid (below_setCells (Nat.le_refl _) (tkc (tk i)) 0 _ (bel_alloc (Below.refl wr.heap.size wr) (.cells #[.string ⟨#[]⟩,.int .i64 0,.int .i64 0,.int .i64 0,.int .i64 0,.int .i64 0,.int .i64 0,.int .i64 0,.int .i64 0,.int .i64 0,.int .i64 0] 41)))
    have hok:=HSS.out.ok i hil
    clear htc
    go_upto_region 16 with (first | (refine wpList_load_mid rfl 41 _ rfl tb (toff + i * 11) rfl (tkc (tk i)) _ hq Tryz.underlying41 rfl Tryz.size41 ?_) | (refine wpList_store_mid rfl 41 _ _ rfl wr.heap.size 0 (tkc (tk i)).toArray rfl rfl hth Tryz.size41 (by simp [Value.oneCell',tkc]) ?_;try simp only [List.toList_toArray];generalize hwt:((wr.alloc (.cells #[.string ⟨#[]⟩,.int .i64 0,.int .i64 0,.int .i64 0,.int .i64 0,.int .i64 0,.int .i64 0,.int .i64 0,.int .i64 0,.int .i64 0,.int .i64 0] 41)).setCells wr.heap.size 0 (tkc (tk i))) = wt at hbt hrg ⊢;clear hwt hq hth))
    have HWT:=Lib.hid (HW.out.trans (hbt.out.mono HW.out.size))
    have t7:=hrg.out 7 _ rfl
    have t8:=hrg.out 8 _ rfl
    simp only [Nat.zero_add] at t7 t8
    have htl:wr.heap.size < wt.heap.size:=block_lt t7
    have hfi:=HFI.out i hil
    have HFI1:=Lib.hid hfi
    clear hfi hbt hrg
    go_loopw [16,15] (fun kx s15 wx=>∃ k:Nat,k ≤ ev.length ∧ kx = .int .i64 k ∧ Hid (wx.ownsRow wt.heap.size 4 1 s15 (metL (ev.take k) i).length (bools (metL (ev.take k) i)) ∧ Below wt.heap.size wt wx)) (fun kx _ _=>ev.length - (intOf kx).toNat)
    case atStart=>exact ⟨0,Nat.zero_le _,rfl,World.ownsRow_nil _ _ _ _,Below.refl _ _⟩
    case round =>
     obtain ⟨k,hk,rfl,HM⟩:=hrel
     by_cases hlt:k < ev.length
     ·have hkI:(k:Int) < (ev.length:Int):=by omega
      have hk0:(0:Int) ≤ (k:Int):=by omega
      have hdl:decide ((k:Int) < (ev.length:Int)) = true:=decide_eq_true hkI
      obtain ⟨ge,rfl,hev⟩:=HE.out wr (HWT.out.trans (HM.out.2.mono HWT.out.size)) k hlt
      have c1:=hev 1 _ rfl
      have c2:=hev 2 _ rfl
      obtain ⟨e,he⟩:∃ e,e = ev[k]:=⟨_,rfl⟩
      have HEK:=Lib.hid he
      rw [← he] at c1 c2
      clear he hev
      obtain ⟨tke,htk⟩:∃ x,e.task = x:=⟨_,rfl⟩
      obtain ⟨wh,hwh⟩:∃ x,e.what = x:=⟨_,rfl⟩
      rw [hwh] at c1
      rw [htk] at c2
      by_cases hti:tke = (i:Int)
      ·by_cases h8:wh = 8
       ·skip
        have hme:metE (i:Int) e = some true:=by unfold metE;rw [htk,hwh,if_pos hti,if_pos h8]
        have HM2:Hid (metL (ev.take (k + 1)) i = metL (ev.take k) i ++ [true]):=by have:=metL_take hlt (i:Int);rw [← HEK.out,hme] at this;exact this
        have hml:(metL (ev.take k) i).length ≤ k:=Nat.le_trans (metL_len _ _) (by rw [List.length_take];omega)
        have ho:=HM.out.1
        have hwl:=HM.out.2.size
        clear hme
        go_wp2_with (at_builtin;refine wpList_append_row rfl _ _ 42 rfl wt.heap.size 4 i4 _ 1 1 Tryz.underlying42 ki4 kz41 kz42 kz43 rfl (by omega) u15 (metL (ev.take k) i).length (bools (metL (ev.take k) i)) rfl (own_fr2 ho (Fr.of_below (S:=fun _=>False) (bel_alloc (Below.refl _ _) _)) (fun _ _ t=>t)) (.slice (some ⟨wr.heap.size,0,none⟩) 1 1) 1 [.bool true] rfl rfl (.inr ⟨⟨wr.heap.size,0,none⟩,1,rfl,fun j u hu=>by obtain ⟨rfl,rfl⟩:=one_of hu;rw [add_none];exact cell_newb _ _ _ _ 0 _ (by simp) rfl⟩) (by simp [Value.oneCell']) (by unfold maxLen;omega) (by omega) (by simp;omega) ?_;intro v7 w7 own7 gr7 at7)
        have HN:Hid (w7.ownsRow wt.heap.size 4 1 v7 (metL (ev.take (k + 1)) i).length (bools (metL (ev.take (k + 1)) i)) ∧ Below wt.heap.size wt w7):=by
         refine ⟨?_,Below.grown (HM.out.2.trans ((bel_alloc (Below.refl _ _) _).mono HM.out.2.size)) gr7 (by simp;omega) (fun q e=>ownsRow_block ho q e)⟩
         rw [HM2.out,bools_snoc,List.length_append]
         exact own7
        clear own7 gr7 at7 ho
        go_roundw
        case rel=>exact ⟨k + 1,by omega,by simp,HN.out⟩
        case measure=>simp [intOf];omega
       ·by_cases h9:wh = 9
        ·skip
         have hme:metE (i:Int) e = some false:=by unfold metE;rw [htk,hwh,if_pos hti,if_neg h8,if_pos (by omega)]
         have HM2:Hid (metL (ev.take (k + 1)) i = metL (ev.take k) i ++ [false]):=by have:=metL_take hlt (i:Int);rw [← HEK.out,hme] at this;exact this
         have hml:(metL (ev.take k) i).length ≤ k:=Nat.le_trans (metL_len _ _) (by rw [List.length_take];omega)
         have ho:=HM.out.1
         have hwl:=HM.out.2.size
         clear hme
         go_wp2_with (at_builtin;refine wpList_append_row rfl _ _ 42 rfl wt.heap.size 4 i4 _ 1 1 Tryz.underlying42 ki4 kz41 kz42 kz43 rfl (by omega) u15 (metL (ev.take k) i).length (bools (metL (ev.take k) i)) rfl (own_fr2 ho (Fr.of_below (S:=fun _=>False) (bel_alloc (Below.refl _ _) _)) (fun _ _ t=>t)) (.slice (some ⟨wr.heap.size,0,none⟩) 1 1) 1 [.bool false] rfl rfl (.inr ⟨⟨wr.heap.size,0,none⟩,1,rfl,fun j u hu=>by obtain ⟨rfl,rfl⟩:=one_of hu;rw [add_none];exact cell_newb _ _ _ _ 0 _ (by simp) rfl⟩) (by simp [Value.oneCell']) (by unfold maxLen;omega) (by omega) (by simp;omega) ?_;intro v7 w7 own7 gr7 at7)
         have HN:Hid (w7.ownsRow wt.heap.size 4 1 v7 (metL (ev.take (k + 1)) i).length (bools (metL (ev.take (k + 1)) i)) ∧ Below wt.heap.size wt w7):=by
          refine ⟨?_,Below.grown (HM.out.2.trans ((bel_alloc (Below.refl _ _) _).mono HM.out.2.size)) gr7 (by simp;omega) (fun q e=>ownsRow_block ho q e)⟩
          rw [HM2.out,bools_snoc,List.length_append]
          exact own7
         clear own7 gr7 at7 ho
         go_roundw
         case rel=>exact ⟨k + 1,by omega,by simp,HN.out⟩
         case measure=>simp [intOf];omega
        ·by_cases h11:wh = 11
         ·skip
          have hme:metE (i:Int) e = some false:=by unfold metE;rw [htk,hwh,if_pos hti,if_neg h8,if_pos (by omega)]
          have HM2:Hid (metL (ev.take (k + 1)) i = metL (ev.take k) i ++ [false]):=by have:=metL_take hlt (i:Int);rw [← HEK.out,hme] at this;exact this
          have hml:(metL (ev.take k) i).length ≤ k:=Nat.le_trans (metL_len _ _) (by rw [List.length_take];omega)
          have ho:=HM.out.1
          have hwl:=HM.out.2.size
          clear hme
          go_wp2_with (at_builtin;refine wpList_append_row rfl _ _ 42 rfl wt.heap.size 4 i4 _ 1 1 Tryz.underlying42 ki4 kz41 kz42 kz43 rfl (by omega) u15 (metL (ev.take k) i).length (bools (metL (ev.take k) i)) rfl (own_fr2 ho (Fr.of_below (S:=fun _=>False) (bel_alloc (Below.refl _ _) _)) (fun _ _ t=>t)) (.slice (some ⟨wr.heap.size,0,none⟩) 1 1) 1 [.bool false] rfl rfl (.inr ⟨⟨wr.heap.size,0,none⟩,1,rfl,fun j u hu=>by obtain ⟨rfl,rfl⟩:=one_of hu;rw [add_none];exact cell_newb _ _ _ _ 0 _ (by simp) rfl⟩) (by simp [Value.oneCell']) (by unfold maxLen;omega) (by omega) (by simp;omega) ?_;intro v7 w7 own7 gr7 at7)
          have HN:Hid (w7.ownsRow wt.heap.size 4 1 v7 (metL (ev.take (k + 1)) i).length (bools (metL (ev.take (k + 1)) i)) ∧ Below wt.heap.size wt w7):=by
           refine ⟨?_,Below.grown (HM.out.2.trans ((bel_alloc (Below.refl _ _) _).mono HM.out.2.size)) gr7 (by simp;omega) (fun q e=>ownsRow_block ho q e)⟩
           rw [HM2.out,bools_snoc,List.length_append]
           exact own7
          clear own7 gr7 at7 ho
          go_roundw
          case rel=>exact ⟨k + 1,by omega,by simp,HN.out⟩
          case measure=>simp [intOf];omega
         ·by_cases h10:wh = 10
          ·skip
           have hme:metE (i:Int) e = some false:=by unfold metE;rw [htk,hwh,if_pos hti,if_neg h8,if_pos (by omega)]
           have HM2:Hid (metL (ev.take (k + 1)) i = metL (ev.take k) i ++ [false]):=by have:=metL_take hlt (i:Int);rw [← HEK.out,hme] at this;exact this
           have hml:(metL (ev.take k) i).length ≤ k:=Nat.le_trans (metL_len _ _) (by rw [List.length_take];omega)
           have ho:=HM.out.1
           have hwl:=HM.out.2.size
           clear hme
           go_wp2_with (at_builtin;refine wpList_append_row rfl _ _ 42 rfl wt.heap.size 4 i4 _ 1 1 Tryz.underlying42 ki4 kz41 kz42 kz43 rfl (by omega) u15 (metL (ev.take k) i).length (bools (metL (ev.take k) i)) rfl (own_fr2 ho (Fr.of_below (S:=fun _=>False) (bel_alloc (Below.refl _ _) _)) (fun _ _ t=>t)) (.slice (some ⟨wr.heap.size,0,none⟩) 1 1) 1 [.bool false] rfl rfl (.inr ⟨⟨wr.heap.size,0,none⟩,1,rfl,fun j u hu=>by obtain ⟨rfl,rfl⟩:=one_of hu;rw [add_none];exact cell_newb _ _ _ _ 0 _ (by simp) rfl⟩) (by simp [Value.oneCell']) (by unfold maxLen;omega) (by omega) (by simp;omega) ?_;intro v7 w7 own7 gr7 at7)
           have HN:Hid (w7.ownsRow wt.heap.size 4 1 v7 (metL (ev.take (k + 1)) i).length (bools (metL (ev.take (k + 1)) i)) ∧ Below wt.heap.size wt w7):=by
            refine ⟨?_,Below.grown (HM.out.2.trans ((bel_alloc (Below.refl _ _) _).mono HM.out.2.size)) gr7 (by simp;omega) (fun q e=>ownsRow_block ho q e)⟩
            rw [HM2.out,bools_snoc,List.length_append]
            exact own7
           clear own7 gr7 at7 ho
           go_roundw
           case rel=>exact ⟨k + 1,by omega,by simp,HN.out⟩
           case measure=>simp [intOf];omega
          ·skip
           have HMK:=metL_take hlt (i:Int)
           rw [← HEK.out] at HMK
           have hme:metE (i:Int) e = none:=by unfold metE;rw [htk,hwh,if_pos hti,if_neg h8,if_neg (by omega)]
           have HM2:Hid (metL (ev.take (k + 1)) i = metL (ev.take k) i):=by show _ = _;rw [HMK,hme];simp
           have d8:(wh == 8) = false:=by rw [beq_eq_false_iff_ne];exact h8
           have d9:(wh == 9) = false:=by rw [beq_eq_false_iff_ne];exact h9
           have d11:(wh == 11) = false:=by rw [beq_eq_false_iff_ne];exact h11
           have d10:(wh == 10) = false:=by rw [beq_eq_false_iff_ne];exact h10
           clear HMK hme
           go_wp2_with fail
           go_roundw
           case rel=>exact ⟨k + 1,by omega,by simp,by rw [HM2.out];exact HM.out⟩
           case measure=>simp [intOf];omega
      ·skip
       have HMK:=metL_take hlt (i:Int)
       rw [← HEK.out] at HMK
       have hme:metE (i:Int) e = none:=by unfold metE;rw [htk,if_neg hti]
       have HM2:Hid (metL (ev.take (k + 1)) i = metL (ev.take k) i):=by show _ = _;rw [HMK,hme];simp
       clear HMK hme
       go_wp2_with fail
       go_roundw
       case rel=>exact ⟨k + 1,by omega,by simp,by rw [HM2.out];exact HM.out⟩
       case measure=>simp [intOf];omega
     ·have hkn:k = ev.length:=by omega
      subst hkn
      have hdl:decide ((ev.length:Int) < (ev.length:Int)) = false:=decide_eq_false (by omega)
      rw [List.take_length] at HM
      obtain ⟨L,hL⟩:∃ L,metL ev i = L:=⟨_,rfl⟩
      rw [hL] at HM HFI1
      have hml:L.length ≤ ev.length:=by rw [← hL];exact metL_len _ _
      obtain ⟨a15,c15,h15⟩:=ownsRow_form HM.out.1
      subst h15
      have hKb:=hok.f1
      have hKc:=hok.f2
      obtain ⟨Kn,hKn⟩:∃ Kn:Nat,(tk i).K = (Kn:Int):=⟨(tk i).K.toNat,by omega⟩
      have hfirm:Hid (∀ k:Nat,Kn ≤ k → k ≤ L.length → (tk i).M ≤ cntT ((L.drop (k - Kn)).take Kn)):=fun k h1 h2=>by
       have:=firm_one hok HFI1.out k (by omega) h2
       rwa [show (tk i).K.toNat = Kn by omega] at this
      have t7:=cell_bel HM.out.2 t7
      have t8:=cell_bel HM.out.2 t8
      rw [hKn] at t8
      have HWM:=Lib.hid (HWT.out.trans (HM.out.2.mono HWT.out.size))
      have HL:Hid (∀ j (hj:j < L.length),∃ g,a15 = some ⟨g,0,none⟩ ∧ wr.cell? ⟨g,j,none⟩ = some (.bool L[j])):=fun j hj=>by
       obtain ⟨g,cap,hv,hg1,hg2,hg3,hg4,hg5⟩:=ownsRow_cells HM.out.1 (by omega)
       cases hv
       exact ⟨g,rfl,hg4 j _ (by simp [bools,hj])⟩
      have hLI:(L.length:Int) ≤ 107200:=by omega
      clear HFI1 HM hL
      rename World=>wm
      go_upto_region 24 with fail
      go_loopw [17] (fun kx wx=>∃ k:Nat,Kn ≤ k ∧ k ≤ L.length + 1 + Kn ∧ kx = .int .i64 k ∧ wx = wm) (fun kx _=>L.length + 2 + Kn - (intOf kx).toNat)
      case atStart=>exact ⟨Kn,Nat.le_refl _,by omega,rfl,rfl⟩
      case round =>
       obtain ⟨k,hk1,hk2,rfl,hwm⟩:=hrel
       have hwm:=hwm.symm
       subst hwm
       by_cases hkl:k ≤ L.length
       ·have hkI:(k:Int) ≤ (L.length:Int):=by omega
        have dk:decide ((k:Int) ≤ (L.length:Int)) = true:=decide_eq_true hkI
        have hwk:IntKind.i64.wrap ((k:Int) - (Kn:Int)) = ((k - Kn:Nat):Int):=by rw [IntWalk.i64_in _ (by omega)];omega
        have hwk2:(k:Int) - (Kn:Int) = ((k - Kn:Nat):Int):=by omega
        have hf:=Lib.hid (hfirm.out k hk1 hkl)
        go_upto_region 28 with fail
        go_loopw [19,18] (fun jx s18 wx=>∃ d:Nat,d ≤ Kn ∧ jx = .int .i64 ((k - Kn + d:Nat):Int) ∧ s18 = .int .i64 (cntT ((L.drop (k - Kn)).take d)) ∧ wx = wm) (fun jx _ _=>k + 1 - (intOf jx).toNat)
        case atStart=>exact ⟨0,Nat.zero_le _,by simp,by simp [cntT],rfl⟩
        case round =>
         obtain ⟨d,hd,rfl,rfl,rfl⟩:=hrel
         by_cases hdl:d < Kn
         ·have hjk:((k - Kn + d:Nat):Int) < (k:Int):=by omega
          have hjd:decide (((k - Kn + d:Nat):Int) < (k:Int)) = true:=decide_eq_true hjk
          have hjL:k - Kn + d < L.length:=by omega
          have hjLI:((k - Kn + d:Nat):Int) < (L.length:Int):=by omega
          have hj0:(0:Int) ≤ ((k - Kn + d:Nat):Int):=by omega
          obtain ⟨gm,rfl,hcm⟩:=HL.out _ hjL
          have hdl2:d < (L.drop (k - Kn)).length:=by rw [List.length_drop];omega
          have hct:=cntT_take hdl2
          rw [List.getElem_drop] at hct
          have hbd:=cntT_bd ((L.drop (k - Kn)).take d)
          have hbl:((L.drop (k - Kn)).take d).length ≤ d:=by rw [List.length_take];omega
          generalize cntT ((L.drop (k - Kn)).take d) = cc at *
          obtain ⟨lb,hlb⟩:∃ b,L[k - Kn + d] = b:=⟨_,rfl⟩
          rw [hlb] at hcm hct
          obtain ⟨jj,hjj⟩:∃ jj:Nat,jj = k - Kn + d:=⟨_,rfl⟩
          rw [← hjj] at hjk hjd hjLI hj0 hcm ⊢
          have hwc:IntKind.i64.wrap (cc + 1) = cc + 1:=by rw [IntWalk.i64_in _ (by omega)]
          have hwj:IntKind.i64.wrap ((jj:Int) + 1) = (jj:Int) + 1:=by rw [IntWalk.i64_in _ (by omega)]
          have HCT:=Lib.hid hct
          have HJJ:=Lib.hid hjj
          clear hct hjj hlb
          cases lb
          ·go_wp2_with fail
           go_roundw
           case rel=>exact ⟨d + 1,by omega,by have:=HJJ.out;simp;omega,by rw [HCT.out];simp,by trivial⟩
           case measure=>have:=HJJ.out;simp [intOf];omega
          ·go_wp2_with fail
           go_roundw
           case rel=>exact ⟨d + 1,by omega,by have:=HJJ.out;simp;omega,by rw [HCT.out];simp,by trivial⟩
           case measure=>have:=HJJ.out;simp [intOf];omega
         ·have hdK:d = Kn:=by omega
          subst hdK
          have hjd:decide (((k - d + d:Nat):Int) < (k:Int)) = false:=decide_eq_false (by omega)
          have hcf:=hf.out
          generalize cntT ((L.drop (k - d)).take d) = cc at *
          have hcd:decide (cc < (tk i).M) = false:=decide_eq_false (by omega)
          go_wp2_with fail
          go_roundw
          case rel=>exact ⟨k + 1,by omega,by omega,by simp,by trivial⟩
          case measure=>simp [intOf];omega
       ·have dk:decide ((k:Int) ≤ (L.length:Int)) = false:=decide_eq_false (by omega)
        go_wp2_with fail
        go_roundw
        case rel=>exact ⟨i + 1,by omega,by simp,HWM.out⟩
        case measure=>simp [intOf];omega
   ·have hin':n = i:=by omega
    subst hin'
    have hdi:decide ((n:Int) < (n:Int)) = false:=decide_eq_false (by omega)
    go_wp2_with fail
    go_ret
    exact ⟨rfl,HB13.out.trans (HW.out.mono HB13.out.size)⟩
 ·have hlm':leastS tk n bu = maxGap:=by have:=(leastS_law tk n bu).1;omega
  have HL:Hid (Calls Tryz.prog 9 #[.agg #[.int .i64 bu,.slice a n c]] w8 fun e w'=>∃ late rb,e = .returned (.tuple #[.int .i64 0,.agg #[.bool false,.int .i64 late,.slice (some ⟨rb,0,none⟩) n n],.int .i64 4]) ∧ Below w8.heap.size w8 w') :=
   (least_any B bu a n c tk w8 hS (HXW.out _ HQ8.out) hB8 hnc).mono (by
    rintro e w' ⟨late,rb,h1,h2,⟨h3,_,_⟩ | ⟨_,rfl⟩⟩
    ·omega
    ·exact ⟨late,rb,rfl,h1⟩)
  clear hS HS2 H8
  go_wp2_with (go_at_call 9;refine HL.out.mono ?_;rintro e w9 ⟨late,rb,rfl,hq9⟩;have HQ9:=Lib.hid (HQ8.out.trans (hq9.mono HQ8.out.size));have x0:=cell_bel hq9 x0;have x1:=cell_bel hq9 x1;clear hq9 HL)
  go_ret
  exact ⟨rfl,HQ9.out.trans ((bel_alloc (Below.refl _ _) _).mono HQ9.out.size)⟩
end
end Go.Proofs.YtnoahekcemfmcaaGreatDoor
