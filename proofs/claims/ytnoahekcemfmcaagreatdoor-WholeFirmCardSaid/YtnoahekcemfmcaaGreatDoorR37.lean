/- A part of the walk: Vj Tl Ta Tb. -/
import Derived.Test.YtnoahekcemfmcaaGreatDoorR36
import Derived.Laws.BytesArg
import Derived.Test.YtnoahekcemfmcaaGreatDoorR03
import Derived.Shelf.SlSortCmp.QuietGrown
import Derived.Lib.QuietBelow
namespace Go.Proofs.YtnoahekcemfmcaaGreatDoor
set_option linter.unusedVariables false
set_option linter.unusedSimpArgs false
set_option maxHeartbeats 80000000
set_option maxRecDepth 100000
section
open Go.RowKit
def leastS (tk:Nat → Tk) (n:Nat) (bu:Int):Nat:=searchF (accS tk n bu) 21 0 maxGap
theorem leastS_law (tk:Nat → Tk) (n:Nat) (bu:Int):leastS tk n bu ≤ maxGap ∧ (leastS tk n bu < maxGap → judgeS tk n bu ((leastS tk n bu:Nat) + 1) = true) ∧ (leastS tk n bu = maxGap → judgeS tk n bu 1049576 = false):=by
 have h:=searchF_law (accS tk n bu) maxGap 21 0 maxGap (Nat.zero_le _) (Nat.le_refl _) (by decide) (fun h=>absurd h (Nat.lt_irrefl _)) (fun h=>absurd h (Nat.lt_irrefl _))
 refine ⟨h.1,h.2.1,fun e=>?_⟩
 have h3:=h.2.2 (by show 0 < leastS tk n bu;rw [e];decide)
 have e2:searchF (accS tk n bu) 21 0 maxGap = maxGap:=e
 rw [e2] at h3
 exact h3
theorem res_three {P:Program} {fn:Func} {p q z:Tmp} {ty:TypeId} (h:fn.results = #[.tmp z,.cell p ty,.tmp q]) (tmps:Array Value) (w:World) (b:Nat) (cs:List Value) (d:TypeDesc) (hp:tmps.getD p undef = .pointer (some ⟨b,0,none⟩))
  (hc:w.rangeAt b 0 cs) (hu:P.underlying ty = some d) (hd:d.isRow = true) (hi:(P.info? ty).map (·.size) = some cs.length):(results fn tmps).run P w = .ok (.tuple #[tmps.getD z undef,.agg cs.toArray,tmps.getD q undef]) w:=by
 have hp':tmps[p]?.getD undef = .pointer (some ⟨b,0,none⟩):=by rw [← hp];simp
 unfold results
 rw [h]
 simp [Sem.run_bind,hp',asAddr,run_loadVar_mid w b 0 ty cs d hc hu hd hi]
theorem least_any (B:Nat) (bu:Int) (a:Option Addr) (n c:Nat) (tk:Nat → Tk) (w:World) (hS:SetOk bu n tk) (hx:TksIn B w a n tk) (hB:B ≤ w.heap.size) (hnc:n ≤ c) :
  Calls Tryz.prog 9 #[.agg #[.int .i64 bu,.slice a n c]] w fun e w'=>∃ late rb,Below w.heap.size w w' ∧ w.heap.size ≤ rb ∧
   ((leastS tk n bu < maxGap ∧ e = .returned (.tuple #[.int .i64 ((leastS tk n bu:Nat) + 1),.agg #[.bool true,.int .i64 late,.slice (some ⟨rb,0,none⟩) n n],.int .i64 0]) ∧ ∀ i,i < n → w'.cell? ⟨rb,i,none⟩ = some (.int .i64 (respS tk n bu i ((leastS tk n bu:Nat) + 1)).1)) ∨
    (leastS tk n bu = maxGap ∧ e = .returned (.tuple #[.int .i64 0,.agg #[.bool false,.int .i64 late,.slice (some ⟨rb,0,none⟩) n n],.int .i64 4]))):=by
 have hb0:=bel_alloc (Below.refl w.heap.size w) (.cells #[.int .i64 bu,.slice a n c] 24)
 have hbox0:=cell_newb w #[.int .i64 bu,.slice a n c] 24 _ 0 _ rfl rfl
 have hbox1:=cell_newb w #[.int .i64 bu,.slice a n c] 24 _ 1 _ rfl rfl
 have hsz:=one_lt w (.cells #[.int .i64 bu,.slice a n c] 24)
 have HB0:=Lib.hid hb0
 have HR:Hid (∀ W,Below w.heap.size w W → Calls Tryz.prog 28 #[.agg #[.int .i64 bu,.slice a n c]] W fun e w'=>e = .returned (.bool true) ∧ Below W.heap.size W w'):=fun W hW=>right_ok B bu a n c tk W hS (hx.keep (hW.mono hB)) (by have:=hW.size;omega) hnc
 have HJ:Hid (∀ W,Below w.heap.size w W → ∀ g,1 ≤ g → g ≤ 1049576 → Calls Tryz.prog 21 #[.agg #[.int .i64 bu,.slice a n c],.int .i64 g] W fun e w'=>∃ late rb,e = .returned (.tuple #[.agg #[.bool (judgeS tk n bu g),.int .i64 late,.slice (some ⟨rb,0,none⟩) n n],.int .i64 0]) ∧ Below W.heap.size W w' ∧ W.heap.size ≤ rb ∧
   (judgeS tk n bu g = true → ∀ i,i < n → w'.cell? ⟨rb,i,none⟩ = some (.int .i64 (respS tk n bu i g).1))):=fun W hW g h1 h2=>judge_any B bu a n c tk g W hS (hx.keep (hW.mono hB)) (by have:=hW.size;omega) hnc h1 h2
 have HA:Hid (∀ W,Below w.heap.size w W → ∀ bs bf h,h < maxGap → W.cell? ⟨bs,0,none⟩ = some (.int .i64 bu) → W.cell? ⟨bs,1,none⟩ = some (.slice a n c) → W.cell? ⟨bf,0,none⟩ = some (.func (.func 29) #[] #[.pointer (some ⟨bs,0,none⟩)]) →
   Calls Tryz.prog 31 #[.int .i64 (h:Nat),.pointer (some ⟨bf,0,none⟩)] W fun e w'=>e = .returned (.bool (accS tk n bu h)) ∧ Below W.heap.size W w'):=fun W hW bs bf h hh h0 h1 hf=>acc2_any B bu a n c tk h bs bf W hS (hx.keep (hW.mono hB)) (by have:=hW.size;omega) hnc hh h0 h1 hf
 obtain ⟨l1,l2,l3⟩:=leastS_law tk n bu
 have eg:∀ args w,(callFunc 31 args).run Tryz.prog w = .ok (.enter 31 args) w:=enters_of Tryz.func31 (by kernel_rfl) rfl
 have hb01:=bel_alloc (Below.refl (w.alloc (.cells #[.int .i64 bu,.slice a n c] 24)).heap.size (w.alloc (.cells #[.int .i64 bu,.slice a n c] 24))) (.cells #[.bool false,.int .i64 0,.slice none 0 0] 30)
 have HB1:=Lib.hid (HB0.out.trans (hb01.mono HB0.out.size))
 have hx0:=Lib.hid (cell_bel hb01 hbox0)
 have hx1:=Lib.hid (cell_bel hb01 hbox1)
 have hyt:Hid (((w.alloc (.cells #[.int .i64 bu,.slice a n c] 24)).alloc (.cells #[.bool false,.int .i64 0,.slice none 0 0] 30)).there (w.heap.size + 1) 0 3):=th_new _ _ _ _ 3 (by simp) (by simp)
 have hs01:w.heap.size + 1 < ((w.alloc (.cells #[.int .i64 bu,.slice a n c] 24)).alloc (.cells #[.bool false,.int .i64 0,.slice none 0 0] 30)).heap.size:=by simp
 clear hx hS hb0 hb01
 go_enter Tryz.func9,Tryz.ntmps9
 go_wp2_with (first | (go_at_call 28;refine (HR.out _ HB1.out).mono ?_;rintro e w2 ⟨rfl,hq2⟩;have HB2:=Lib.hid (HB1.out.trans (hq2.mono HB1.out.size));have x20:=cell_bel hq2 hx0.out;have x21:=cell_bel hq2 hx1.out;have HT2:=Lib.hid (th_below hq2 (by simp) hyt.out);have hs2:w.heap.size + 1 < w2.heap.size:=Nat.lt_of_lt_of_le hs01 hq2.size;clear hq2 hx0 hx1 hyt hs01 hbox0 hbox1 hsz))
 have hb3:=bel_alloc (Below.refl w2.heap.size w2) (.cells #[.func (.func 29) #[] #[.pointer (some ⟨w.heap.size,0,none⟩)]] 80)
 have HB3:=Lib.hid (HB2.out.trans (hb3.mono HB2.out.size))
 have hf3:=cell_newb w2 #[.func (.func 29) #[] #[.pointer (some ⟨w.heap.size,0,none⟩)]] 80 _ 0 _ rfl rfl
 have x30:=cell_bel hb3 x20
 have x31:=cell_bel hb3 x21
 have hT3:=th_below hb3 hs2 HT2.out
 have hs3:w.heap.size + 1 < (w2.alloc (.cells #[.func (.func 29) #[] #[.pointer (some ⟨w.heap.size,0,none⟩)]] 80)).heap.size:=by simp;omega
 generalize w2.alloc (.cells #[.func (.func 29) #[] #[.pointer (some ⟨w.heap.size,0,none⟩)]] 80) = w3 at hb3 HB3 hf3 x30 x31 hT3 hs3 ⊢
 have HSR:Calls Tryz.prog 30 #[.int .i64 1049576,.func (.func 31) #[] #[.pointer (some ⟨w2.heap.size,0,none⟩)]] w3 fun e w'=>e = .returned (.int .i64 (leastS tk n bu:Nat)) ∧ Below w3.heap.size w3 w' :=
  search_any maxGap (accS tk n bu) 31 #[.pointer (some ⟨w2.heap.size,0,none⟩)] 21 w3 eg (by decide) (by decide) fun W hW h hh=>HA.out W (HB3.out.trans (hW.mono HB3.out.size)) w.heap.size w2.heap.size h hh (cell_bel hW x30) (cell_bel hW x31) (cell_bel hW hf3)
 refine HSR.mono ?_
 rintro e w5 ⟨rfl,hq5⟩
 have HB5:=Lib.hid (HB3.out.trans (hq5.mono HB3.out.size))
 have x50:=cell_bel hq5 x30
 have x51:=cell_bel hq5 x31
 have HT5:=Lib.hid (th_below hq5 hs3 hT3)
 have hs5:w.heap.size + 1 < w5.heap.size:=Nat.lt_of_lt_of_le hs3 hq5.size
 clear hq5 HSR hb3 hf3 x30 x31 hT3 hs3 x20 x21 HT2 HB2 HA hs2
 obtain ⟨r,hr⟩:∃ r,leastS tk n bu = r:=⟨_,rfl⟩
 have HRR:=Lib.hid hr
 rw [hr] at l1 l2 l3 ⊢
 clear hr
 have hr0:(0:Int) ≤ (r:Int):=by omega
 have hrm:(r:Int) ≤ 1049576:=by unfold maxGap at l1;omega
 by_cases hlt:r < maxGap
 ·have hlt':(r:Int) + 1 ≤ 1049576:=by unfold maxGap at hlt;omega
  have hlt2:(1:Int) + (r:Int) ≤ 1049576:=by omega
  have hd:decide ((1049576:Int) < 1 + (r:Int)) = false:=decide_eq_false (by omega)
  have HJ2:=Lib.hid (HJ.out w5 HB5.out (1 + (r:Int)) (by omega) hlt2)
  have e1:(1:Int) + (r:Int) = (r:Int) + 1:=by omega
  have HL2:=Lib.hid (l2 hlt)
  rw [e1] at HJ2
  have HE1:=Lib.hid e1
  have HLT:=Lib.hid hlt
  clear e1 l1 l2 l3 HJ hlt
  go_wp2_with (go_at_call 21;rw [HE1.out];refine HJ2.out.mono ?_;rintro e w6 ⟨late,rb,rfl,hq6,hrb,hcells⟩)
  have hb7:=bel_alloc (Below.refl w6.heap.size w6) (.cells #[.bool (judgeS tk n bu ((r:Int) + 1)),.int .i64 late,.slice (some ⟨rb,0,none⟩) n n] 30)
  have hC6:Hid ((w6.alloc (.cells #[.bool (judgeS tk n bu ((r:Int) + 1)),.int .i64 late,.slice (some ⟨rb,0,none⟩) n n] 30)).drew.rangeAt w6.heap.size 0 [.bool (judgeS tk n bu ((r:Int) + 1)),.int .i64 late,.slice (some ⟨rb,0,none⟩) n n]):=rg_new w6 _ _ _ rfl
  have hth6:(w6.alloc (.cells #[.bool (judgeS tk n bu ((r:Int) + 1)),.int .i64 late,.slice (some ⟨rb,0,none⟩) n n] 30)).drew.there (w.heap.size + 1) 0 3:=(show (w6.alloc (.cells #[.bool (judgeS tk n bu ((r:Int) + 1)),.int .i64 late,.slice (some ⟨rb,0,none⟩) n n] 30)).there (w.heap.size + 1) 0 3 from th_below hb7 (by have:=hq6.size;omega) (th_below hq6 hs5 HT5.out))
  have hs6:w.heap.size + 1 < w6.heap.size:=Nat.lt_of_lt_of_le hs5 hq6.size
  have HB6:=Lib.hid ((HB5.out.trans ((hq6.trans (hb7.mono hq6.size)).mono HB5.out.size)).trans (show Below w.heap.size (w6.alloc (.cells #[.bool (judgeS tk n bu ((r:Int) + 1)),.int .i64 late,.slice (some ⟨rb,0,none⟩) n n] 30)) (w6.alloc (.cells #[.bool (judgeS tk n bu ((r:Int) + 1)),.int .i64 late,.slice (some ⟨rb,0,none⟩) n n] 30)).drew from ⟨rfl,rfl,rfl,Nat.le_refl _,fun _ _=>rfl⟩))
  refine wp_region_held_drew (S:=(fun w'=>w'.rangeAt w6.heap.size 0 [.bool (judgeS tk n bu ((r:Int) + 1)),.int .i64 late,.slice (some ⟨rb,0,none⟩) n n])) (by kernel_rfl) ?hS0a (fun hHeld=>?_)
  case hS0a=>(try dsimp only);exact hC6.out
  refine wtk (i:=0) ?_
  try simp only [Act.put,List.setIfInBounds_toArray,List.set]
  refine wpAnyH_take (i := 1) (oi := { dst := some 34, op := Op.load 30 (Operand.tmp 9), type := 30, pos := "gap.go:31", after := #[{ on := 3, ground := Ground.gcOnly Departure.lateStores }], guard := none }) rfl (by kernel_rfl) (by kernel_rfl) (by kernel_rfl) (fun _ _ _ h => h) (yieldsIf_load_mid (by rfl) 30 _ rfl w6.heap.size 0 rfl [.bool (judgeS tk n bu ((r : Int) + 1)), .int .i64 late, .slice (some ⟨rb, 0, none⟩) n n] _ ?hSa2 Tryz.underlying30 rfl Tryz.size30) (by assumption) ?_
  case hSa2=>(intro wS hSw;(try dsimp only at hSw);exact hSw)
  try simp only [Act.put,List.setIfInBounds_toArray,List.set]
  refine wtk (i:=2) ?_
  try simp only [Act.put,List.setIfInBounds_toArray,List.set]
  refine wtk (i:=3) ?_
  try simp only [Act.put,List.setIfInBounds_toArray,List.set]
  refine wpAnyH_ready (rs:=[4]) (by kernel_rfl) (by simp) ?_
  refine arc (fun K hK=>?_) AllReadyH.nil
  rw [if_pos (by rfl)]
  refine wp_store_mid 30 _ _ rfl (w.heap.size + 1) 0 _ rfl rfl hth6 Tryz.size30 (by simp [Value.oneCell']) ?_
  try simp only [Act.put,List.setIfInBounds_toArray,List.set]
  refine hK.out _ _ ?hSa5 (fun hHeld2=>?hra5)
  case hSa5=>(try dsimp only);exact rg_fr (fr_setCells (S:=fun q=>q = w.heap.size + 1) rfl _ _ _ (Fr.refl _ _)) (by simp) (by show ¬ w6.heap.size = w.heap.size + 1;omega) hC6.out
  clear hK K hHeld
  have hHeld:=hHeld2
  clear hHeld2
  try simp only [Act.put,List.setIfInBounds_toArray,List.set]
  refine wtk (i:=5) ?_
  try simp only [Act.put,List.setIfInBounds_toArray,List.set]
  refine wpAnyH_done (by kernel_rfl) ?_ _
  clear hHeld
  go_wp2_with fail
  refine bodyPost_ret (res_three (by rfl) _ _ (w.heap.size + 1) _ _ rfl (World.rangeAt_setCells_same _ _ _ _ hth6) Tryz.underlying30 rfl Tryz.size30) rfl ⟨late,rb,below_setCells (by omega) _ _ _ HB6.out,by have:=HB5.out.size;omega,.inl ⟨by rw [HRR.out];exact HLT.out,by rw [HRR.out,HL2.out];first | rfl | done,fun i hi=>?_⟩⟩
  rw [HRR.out]
  have hcd0:(w6.alloc (.cells #[.bool (judgeS tk n bu ((r:Int) + 1)),.int .i64 late,.slice (some ⟨rb,0,none⟩) n n] 30)).cell? ⟨rb,i,none⟩ = some (.int .i64 (respS tk n bu i ((r:Int) + 1)).1):=cell_bel hb7 (hcells HL2.out i hi)
  have hcd:(w6.alloc (.cells #[.bool (judgeS tk n bu ((r:Int) + 1)),.int .i64 late,.slice (some ⟨rb,0,none⟩) n n] 30)).drew.cell? ⟨rb,i,none⟩ = some (.int .i64 (respS tk n bu i ((r:Int) + 1)).1):=hcd0
  have hfs:Fr (fun q=>q = w.heap.size + 1) (w6.alloc (.cells #[.bool (judgeS tk n bu ((r:Int) + 1)),.int .i64 late,.slice (some ⟨rb,0,none⟩) n n] 30)).drew ((w6.alloc (.cells #[.bool (judgeS tk n bu ((r:Int) + 1)),.int .i64 late,.slice (some ⟨rb,0,none⟩) n n] 30)).drew.setCells (w.heap.size + 1) 0 [.bool (judgeS tk n bu ((r:Int) + 1)),.int .i64 late,.slice (some ⟨rb,0,none⟩) n n]):=fr_setCells (S:=fun q=>q = w.heap.size + 1) rfl _ _ _ (Fr.refl _ _)
  exact (hfs.cell (p:=⟨rb,i,none⟩) (block_lt hcd) (by show ¬ rb = w.heap.size + 1;omega)).trans hcd
 ·have hre:r = maxGap:=by omega
  have hd:decide ((1049576:Int) < 1 + (r:Int)) = true:=decide_eq_true (by rw [hre];decide)
  have hr2:(1:Int) + (r:Int) ≤ 1049577:=by omega
  have HJ2:=Lib.hid (HJ.out w5 HB5.out 1049576 (by omega) (by omega))
  have HL3:=Lib.hid (l3 hre)
  have HRE:=Lib.hid hre
  clear l1 l2 l3 HJ hlt hre
  go_wp2_with (go_at_call 21;refine HJ2.out.mono ?_;rintro e w6 ⟨late,rb,rfl,hq6,hrb,hcells⟩)
  have hb7:=bel_alloc (Below.refl w6.heap.size w6) (.cells #[.bool (judgeS tk n bu 1049576),.int .i64 late,.slice (some ⟨rb,0,none⟩) n n] 30)
  have hC6:Hid ((w6.alloc (.cells #[.bool (judgeS tk n bu 1049576),.int .i64 late,.slice (some ⟨rb,0,none⟩) n n] 30)).drew.rangeAt w6.heap.size 0 [.bool (judgeS tk n bu 1049576),.int .i64 late,.slice (some ⟨rb,0,none⟩) n n]):=rg_new w6 _ _ _ rfl
  have hth6:(w6.alloc (.cells #[.bool (judgeS tk n bu 1049576),.int .i64 late,.slice (some ⟨rb,0,none⟩) n n] 30)).drew.there (w.heap.size + 1) 0 3:=(show (w6.alloc (.cells #[.bool (judgeS tk n bu 1049576),.int .i64 late,.slice (some ⟨rb,0,none⟩) n n] 30)).there (w.heap.size + 1) 0 3 from th_below hb7 (by have:=hq6.size;omega) (th_below hq6 hs5 HT5.out))
  have hs6:w.heap.size + 1 < w6.heap.size:=Nat.lt_of_lt_of_le hs5 hq6.size
  have HB6:=Lib.hid ((HB5.out.trans ((hq6.trans (hb7.mono hq6.size)).mono HB5.out.size)).trans (show Below w.heap.size (w6.alloc (.cells #[.bool (judgeS tk n bu 1049576),.int .i64 late,.slice (some ⟨rb,0,none⟩) n n] 30)) (w6.alloc (.cells #[.bool (judgeS tk n bu 1049576),.int .i64 late,.slice (some ⟨rb,0,none⟩) n n] 30)).drew from ⟨rfl,rfl,rfl,Nat.le_refl _,fun _ _=>rfl⟩))
  refine wp_region_held_drew (S:=(fun w'=>w'.rangeAt w6.heap.size 0 [.bool (judgeS tk n bu 1049576),.int .i64 late,.slice (some ⟨rb,0,none⟩) n n])) (by kernel_rfl) ?hS0b (fun hHeld=>?_)
  case hS0b=>(try dsimp only);exact hC6.out
  refine wpAnyH_take (i := 0) (oi := { dst := some 26, op := Op.load 30 (Operand.tmp 7), type := 30, pos := "gap.go:28", after := #[{ on := 1, ground := Ground.gcOnly Departure.lateStores }], guard := none }) rfl (by kernel_rfl) (by kernel_rfl) (by kernel_rfl) (fun _ _ _ h => h) (yieldsIf_load_mid (by rfl) 30 _ rfl w6.heap.size 0 rfl [.bool (judgeS tk n bu 1049576), .int .i64 late, .slice (some ⟨rb, 0, none⟩) n n] _ ?hSb1 Tryz.underlying30 rfl Tryz.size30) (by assumption) ?_
  case hSb1=>(intro wS hSw;(try dsimp only at hSw);exact hSw)
  try simp only [Act.put,List.setIfInBounds_toArray,List.set]
  refine wtk (i:=1) ?_
  try simp only [Act.put,List.setIfInBounds_toArray,List.set]
  refine wpAnyH_ready (rs:=[2]) (by kernel_rfl) (by simp) ?_
  refine arc (fun K hK=>?_) AllReadyH.nil
  rw [if_pos (by rfl)]
  refine wp_store_mid 30 _ _ rfl (w.heap.size + 1) 0 _ rfl rfl hth6 Tryz.size30 (by simp [Value.oneCell']) ?_
  try simp only [Act.put,List.setIfInBounds_toArray,List.set]
  refine hK.out _ _ ?hSb3 (fun hHeld2=>?hrb3)
  case hSb3=>(try dsimp only);exact rg_fr (fr_setCells (S:=fun q=>q = w.heap.size + 1) rfl _ _ _ (Fr.refl _ _)) (by simp) (by show ¬ w6.heap.size = w.heap.size + 1;omega) hC6.out
  clear hK K hHeld
  have hHeld:=hHeld2
  clear hHeld2
  try simp only [Act.put,List.setIfInBounds_toArray,List.set]
  refine wtk (i:=3) ?_
  try simp only [Act.put,List.setIfInBounds_toArray,List.set]
  refine wpAnyH_done (by kernel_rfl) ?_ _
  clear hHeld
  go_wp2_with fail
  refine bodyPost_ret (res_three (by rfl) _ _ (w.heap.size + 1) _ _ rfl (World.rangeAt_setCells_same _ _ _ _ hth6) Tryz.underlying30 rfl Tryz.size30) rfl ⟨late,rb,below_setCells (by omega) _ _ _ HB6.out,by have:=HB5.out.size;omega,.inr ⟨by rw [HRR.out];exact HRE.out,by rw [HL3.out];first | rfl | done⟩⟩
end
def smallB (c:Int):Bool:=decide (97 ≤ c) && decide (c ≤ 122)
def digitB (c:Int):Bool:=decide (48 ≤ c) && decide (c ≤ 57)
def inWordB (c:Int):Bool:=smallB c || (digitB c || decide (c = 95))
structure Tok where
 kind:Int
 text:List Int
 value:Int
 line:Int
 col:Int
deriving DecidableEq
structure Rdr where
 at_:Nat
 line:Int
 col:Int
 out:List Tok
def runL (f:Int → Bool):List Int → Nat
 | []=>0
 | c :: l=>if f c then runL f l + 1 else 0
def numV (n:Int):List Int → Int
 | []=>n
 | c :: l=>numV (10 * n + (c - 48)) l
def lexStep (bs:List Int) (r:Rdr):Option Rdr :=
 match bs.drop r.at_ with
 | []=>none
 | c :: l =>
  if smallB c then
   if r.at_ + runL inWordB (c :: l) < bs.length then
    some ⟨r.at_ + runL inWordB (c :: l),r.line,r.col + (runL inWordB (c :: l):Nat),r.out ++ [⟨1,(c :: l).take (runL inWordB (c :: l)),0,r.line,r.col⟩]⟩
   else none
  else if digitB c then
   if runL digitB (c :: l) ≤ 3 ∧ r.at_ + runL digitB (c :: l) < bs.length then
    some ⟨r.at_ + runL digitB (c :: l),r.line,r.col + (runL digitB (c :: l):Nat),r.out ++ [⟨2,(c :: l).take (runL digitB (c :: l)),numV 0 ((c :: l).take (runL digitB (c :: l))),r.line,r.col⟩]⟩
   else none
  else if c = 10 then some ⟨r.at_ + 1,r.line + 1,1,r.out ++ [⟨3,[],0,r.line,r.col⟩]⟩
  else if c = 32 then some ⟨r.at_ + 1,r.line,r.col + 1,r.out⟩
  else none
def lexAll (bs:List Int):Nat → Rdr → Option (List Tok)
 | 0,_=>none
 | f + 1,r =>
  if bs.length ≤ r.at_ then some (r.out ++ [⟨4,[],0,r.line,r.col⟩])
  else match lexStep bs r with
   | none=>none
   | some r'=>lexAll bs f r'
def numL (n:Nat):List Int:=if n < 10 then [48 + (n:Int)] else [48 + (n / 10:Nat),48 + (n % 10:Nat)]
def modeL (m:Nat):List Int:=if m = 1 then [114,101,116,114,121] else if m = 2 then [98,108,111,99,107] else [98,97,99,107,117,112]
def taskL (nm:List Int) (T D C mode A Seg Cost M K Prio:Nat):List Int :=
 [116,97,115,107,32] ++ nm ++ [32] ++ numL T ++ [32] ++ numL D ++ [32] ++ numL C ++ [32] ++ modeL mode ++ [32] ++ numL A ++ [32] ++ numL Seg ++ [32] ++ numL Cost ++ [32] ++ numL M ++ [32] ++ numL K ++ [32] ++ numL Prio ++ [10]
def textL:List Int:=[98,117,114,115,116,32] ++ numL 1 ++ [10] ++ taskL [97] 20 18 3 1 0 2 1 1 1 0 ++ taskL [98] 40 35 4 3 3 0 0 2 3 1 ++ taskL [99] 80 70 6 2 2 0 0 1 2 2
def toksL:List Tok:=((lexAll textL 200 ⟨0,1,1,[]⟩).getD [])
theorem lexed:lexAll textL 200 ⟨0,1,1,[]⟩ = some toksL:=by decide +kernel
section
open Go.RowKit
def numS (n:Nat):ByteArray:=if n < 10 then strOfNums [48 + (n:Int)] else strOfNums [48 + ((n / 10:Nat):Int)] ++ strOfNums [48 + ((n % 10:Nat):Int)]
def GrS (w w':World):Prop:=∃ q os',w' = Sort.grow (w.drewN q) os'
theorem GrS.alloc (w:World) (o:Obj):GrS w (w.alloc o):=⟨0,#[o],rfl⟩
theorem GrS.trans {a b c:World} (h:GrS a b) (k:GrS b c):GrS a c:=by
 obtain ⟨q,os,rfl⟩:=h
 obtain ⟨r,ps,rfl⟩:=k
 exact ⟨q + r,os ++ ps,by show Sort.grow (Sort.grow ((a.drewN q).drewN r) os) ps = _;rw [Sort.grow_grow,World.drewN_drewN]⟩
theorem digit_any (n:Nat) (w:World) (h:n < 10) :
  Calls Tryz.prog 121 #[.int .u64 n] w fun e w'=>e = .returned (.string (strOfNums [48 + (n:Int)])) ∧ GrS w w':=by
 have hI:(n:Int) < 10:=by omega
 have hI0:(0:Int) ≤ (n:Int):=by omega
 have hd:decide ((n:Int) < 10) = true:=decide_eq_true hI
 have hw1:IntKind.u64.wrap (48 + (n:Int)) = 48 + (n:Int):=by simp [IntKind.wrap,IntKind.bits,IntKind.signed];omega
 have hw2:IntKind.u8.wrap (48 + (n:Int)) = 48 + (n:Int):=by simp [IntKind.wrap,IntKind.bits,IntKind.signed];omega
 obtain ⟨m,hm⟩:∃ m:Int,48 + (n:Int) = m:=⟨_,rfl⟩
 rw [hm] at hw1 hw2 ⊢
 have kc:=fun (W:World)=>run_convert_bytes_arg (P:=Tryz.prog) (W.alloc (.cells #[.int .u8 m] 5)) 72 5 Tryz.underlying72 Tryz.underlying5 W.heap.size 0 1 1 [m] rfl (fun i hi=>by { have h0:i = 0:=(by omega);subst h0;exact cell_newb _ _ _ _ 0 _ rfl rfl }) 9 Tryz.underlying9
 go_enter Tryz.func121,Tryz.ntmps121
 go_wp2_with fail
 go_ret
 exact ⟨rfl,.alloc _ _⟩
theorem digits_any (n:Nat) (w:World) (h:n < 100) :
  Calls Tryz.prog 121 #[.int .u64 n] w fun e w'=>e = .returned (.string (numS n)) ∧ GrS w w':=by
 unfold numS
 by_cases h10:n < 10
 ·rw [if_pos h10];exact digit_any n w h10
 ·rw [if_neg h10]
  have hI:¬ (n:Int) < 10:=by omega
  have hd:decide ((n:Int) < 10) = false:=decide_eq_false hI
  have hq:(n:Int).tdiv 10 = ((n / 10:Nat):Int):=by rw [Int.tdiv_eq_ediv_of_nonneg (by omega)];omega
  have hr:(n:Int).tmod 10 = ((n % 10:Nat):Int):=by rw [Int.tmod_eq_emod_of_nonneg (by omega)];omega
  have H1:=Lib.hid (fun W=>digit_any (n / 10) W (by omega))
  have H2:=Lib.hid (fun W=>digit_any (n % 10) W (by omega))
  have hq2:IntKind.u64.wrap ((n / 10:Nat):Int) = ((n / 10:Nat):Int):=by simp [IntKind.wrap,IntKind.bits,IntKind.signed];omega
  have hr2:IntKind.u64.wrap ((n % 10:Nat):Int) = ((n % 10:Nat):Int):=by simp [IntKind.wrap,IntKind.bits,IntKind.signed];omega
  generalize ((n / 10:Nat):Int) = q at *
  generalize ((n % 10:Nat):Int) = r at *
  go_enter Tryz.func121,Tryz.ntmps121
  go_wp2_with (go_at_call 121;first | (refine (H1.out _).mono ?_;rintro e w1 ⟨rfl,g1⟩;clear H1) | (refine (H2.out _).mono ?_;rintro e w2 ⟨rfl,g2⟩))
  go_ret
  exact ⟨rfl,g1.trans g2⟩
theorem number_any (n:Nat) (w:World) (h:n < 100) :
  Calls Tryz.prog 83 #[.int .i64 n] w fun e w'=>e = .returned (.string (numS n)) ∧ GrS w w':=by
 have hd:decide ((n:Int) < 0) = false:=decide_eq_false (by omega)
 have hw:IntKind.u64.wrap (n:Int) = (n:Int):=by simp [IntKind.wrap,IntKind.bits,IntKind.signed];omega
 have H:=Lib.hid (digits_any n w h)
 go_enter Tryz.func83,Tryz.ntmps83
 go_wp2_with (go_at_call 121;refine H.out.mono ?_;rintro e w1 ⟨rfl,g1⟩)
 go_ret
 exact ⟨rfl,g1⟩
def modeS (m:Nat):ByteArray:=if m = 1 then ⟨#[114,101,116,114,121]⟩ else if m = 2 then ⟨#[98,108,111,99,107]⟩ else ⟨#[98,97,99,107,117,112]⟩
theorem mode_any (m:Nat) (w:World) (h:1 ≤ m) (h3:m ≤ 3) :
  Calls Tryz.prog 122 #[.int .i64 m] w fun e w'=>e = .returned (.string (modeS m)) ∧ GrS w w':=by
 obtain ⟨x0,y,hx⟩:∃ x y,(x:World) = w.alloc (.cells #[.string ⟨#[110,111,110,101]⟩,.string ⟨#[114,101,116,114,121]⟩,.string ⟨#[98,108,111,99,107]⟩,.string ⟨#[98,97,99,107,117,112]⟩] 9) ∧ y = w.heap.size:=⟨_,_,rfl,rfl⟩
 have hm:m = 1 ∨ m = 2 ∨ m = 3:=by omega
 rcases hm with rfl | rfl | rfl
 all_goals
  go_enter Tryz.func122,Tryz.ntmps122
  go_wp2_with fail
  go_ret
  exact ⟨rfl,.alloc _ _⟩
end
section
open Go.RowKit
theorem GrS.below {w w':World} (h:GrS w w'):Below w.heap.size w w':=by
 obtain ⟨q,os,rfl⟩:=h
 exact ⟨rfl,rfl,rfl,by simp [Sort.grow],fun k hk=>by simp [Sort.grow,Array.getElem?_append,hk]⟩
theorem numS_size (n:Nat):(numS n).size ≤ 2:=by
 unfold numS
 split
 ·rw [strOfNums_size];simp
 ·rw [ByteArray.size_append,strOfNums_size,strOfNums_size];simp
theorem modeS_size (n:Nat):(modeS n).size ≤ 6:=by
 unfold modeS
 split
 ·decide
 ·split <;> decide
def rtaskS (nm S1 S2 S3 S4 S5 S6 S7 S8 S9 S0:ByteArray):ByteArray:=(⟨#[116,97,115,107,32]⟩:ByteArray) ++ nm ++ ⟨#[32]⟩ ++ S1 ++ ⟨#[32]⟩ ++ S2 ++ ⟨#[32]⟩ ++ S3 ++ ⟨#[32]⟩ ++ S4 ++ ⟨#[32]⟩ ++ S5 ++ ⟨#[32]⟩ ++ S6 ++ ⟨#[32]⟩ ++ S7 ++ ⟨#[32]⟩ ++ S8 ++ ⟨#[32]⟩ ++ S9 ++ ⟨#[32]⟩ ++ S0
theorem rtask_any (nm:ByteArray) (T D C A Seg Cost M K Mo Prio:Nat) (w:World) (hn:nm.size ≤ 60) (h1:T < 100) (h2:D < 100) (h3:C < 100) (h4:A < 100) (h5:Seg < 100) (h6:Cost < 100) (h7:M < 100) (h8:K < 100) (h9:1 ≤ Mo) (h10:Mo ≤ 3) (h11:Prio < 100) :
  Calls Tryz.prog 84 #[.agg #[.string nm,.int .i64 T,.int .i64 D,.int .i64 C,.int .i64 A,.int .i64 Seg,.int .i64 Cost,.int .i64 M,.int .i64 K,.int .i64 Mo,.int .i64 Prio]] w fun e w' =>
   e = .returned (.string (rtaskS nm (numS T) (numS D) (numS C) (modeS Mo) (numS A) (numS Seg) (numS Cost) (numS M) (numS K) (numS Prio))) ∧ Below w.heap.size w w':=by
 have hm:Tryz.prog.follows .mixedOrders = true:=by kernel_rfl
 unfold rtaskS
 obtain ⟨S1,e1⟩:∃ S,numS T = S:=⟨_,rfl⟩
 obtain ⟨S2,e2⟩:∃ S,numS D = S:=⟨_,rfl⟩
 obtain ⟨S3,e3⟩:∃ S,numS C = S:=⟨_,rfl⟩
 obtain ⟨S4,e4⟩:∃ S,modeS Mo = S:=⟨_,rfl⟩
 obtain ⟨S5,e5⟩:∃ S,numS A = S:=⟨_,rfl⟩
 obtain ⟨S6,e6⟩:∃ S,numS Seg = S:=⟨_,rfl⟩
 obtain ⟨S7,e7⟩:∃ S,numS Cost = S:=⟨_,rfl⟩
 obtain ⟨S8,e8⟩:∃ S,numS M = S:=⟨_,rfl⟩
 obtain ⟨S9,e9⟩:∃ S,numS K = S:=⟨_,rfl⟩
 obtain ⟨S0,e0⟩:∃ S,numS Prio = S:=⟨_,rfl⟩
 have z1:S1.size ≤ 2:=e1 ▸ numS_size T
 have z2:S2.size ≤ 2:=e2 ▸ numS_size D
 have z3:S3.size ≤ 2:=e3 ▸ numS_size C
 have z4:S4.size ≤ 6:=e4 ▸ modeS_size Mo
 have z5:S5.size ≤ 2:=e5 ▸ numS_size A
 have z6:S6.size ≤ 2:=e6 ▸ numS_size Seg
 have z7:S7.size ≤ 2:=e7 ▸ numS_size Cost
 have z8:S8.size ≤ 2:=e8 ▸ numS_size M
 have z9:S9.size ≤ 2:=e9 ▸ numS_size K
 have z0:S0.size ≤ 2:=e0 ▸ numS_size Prio
 have G (n:Nat) (S:ByteArray) (hn:n < 100) (he:numS n = S):∀ (w1:World) d os,Calls Tryz.prog 83 #[.int .i64 n] (Sort.grow (redrawn w1 d) os) fun e w''=>e = .returned (.string S) ∧ ∃ p:Regrown,w'' = Sort.grow (redrawn w1 p.d) p.os:=fun w1 d os =>
  Calls.regrown_of ((number_any n _ hn).mono fun e w' ⟨a,b⟩=>⟨he ▸ a,b.below⟩)
 have c1:=Lib.hid (G T S1 h1 e1)
 have c2:=Lib.hid (G D S2 h2 e2)
 have c3:=Lib.hid (G C S3 h3 e3)
 have c5:=Lib.hid (G A S5 h4 e5)
 have c6:=Lib.hid (G Seg S6 h5 e6)
 have c7:=Lib.hid (G Cost S7 h6 e7)
 have c8:=Lib.hid (G M S8 h7 e8)
 have c9:=Lib.hid (G K S9 h8 e9)
 have c0:=Lib.hid (G Prio S0 h11 e0)
 have c4:Hid (∀ (w1:World) d os,Calls Tryz.prog 122 #[.int .i64 Mo] (Sort.grow (redrawn w1 d) os) fun e w''=>e = .returned (.string S4) ∧ ∃ p:Regrown,w'' = Sort.grow (redrawn w1 p.d) p.os):=fun w1 d os =>
  Calls.regrown_of ((mode_any Mo _ h9 h10).mono fun e w' ⟨a,b⟩=>⟨e4 ▸ a,b.below⟩)
 generalize (T:Int) = T' at *
 generalize (D:Int) = D' at *
 generalize (C:Int) = C' at *
 generalize (A:Int) = A' at *
 generalize (Seg:Int) = Seg' at *
 generalize (Cost:Int) = Cost' at *
 generalize (M:Int) = M' at *
 generalize (K:Int) = K' at *
 generalize (Mo:Int) = Mo' at *
 generalize (Prio:Int) = Prio' at *
 rw [e1,e2,e3,e4,e5,e6,e7,e8,e9,e0]
 clear G e1 e2 e3 e4 e5 e6 e7 e8 e9 e0 h1 h2 h3 h4 h5 h6 h7 h8 h9 h10 h11
 have hb:=Lib.hid (bel_alloc (Below.refl w.heap.size w) (.cells #[.string nm,.int .i64 T',.int .i64 D',.int .i64 C',.int .i64 A',.int .i64 Seg',.int .i64 Cost',.int .i64 M',.int .i64 K',.int .i64 Mo',.int .i64 Prio'] 41))
 have n1:¬ 9223372036854775807 < 5 + nm.size:=by omega
 have n2:¬ 9223372036854775807 < 5 + nm.size + 1:=by omega
 have n3:¬ 9223372036854775807 < 5 + nm.size + 1 + S1.size:=by omega
 have n4:¬ 9223372036854775807 < 5 + nm.size + 1 + S1.size + 1:=by omega
 have n5:¬ 9223372036854775807 < 5 + nm.size + 1 + S1.size + 1 + S2.size:=by omega
 have n6:¬ 9223372036854775807 < 5 + nm.size + 1 + S1.size + 1 + S2.size + 1:=by omega
 have n7:¬ 9223372036854775807 < 5 + nm.size + 1 + S1.size + 1 + S2.size + 1 + S3.size:=by omega
 have n8:¬ 9223372036854775807 < 5 + nm.size + 1 + S1.size + 1 + S2.size + 1 + S3.size + 1:=by omega
 have n9:¬ 9223372036854775807 < 5 + nm.size + 1 + S1.size + 1 + S2.size + 1 + S3.size + 1 + S4.size:=by omega
 go_enter Tryz.func84,Tryz.ntmps84
 go_wp2_with fail
 have KK:∀ (j:Nat) (u:Value),(#[.string nm,.int .i64 T',.int .i64 D',.int .i64 C',.int .i64 A',.int .i64 Seg',.int .i64 Cost',.int .i64 M',.int .i64 K',.int .i64 Mo',.int .i64 Prio']:Array Value).toList[j]? = some u → ∀ d os,(Sort.grow (redrawn (w.alloc (.cells #[.string nm,.int .i64 T',.int .i64 D',.int .i64 C',.int .i64 A',.int .i64 Seg',.int .i64 Cost',.int .i64 M',.int .i64 K',.int .i64 Mo',.int .i64 Prio'] 41)) d) os).cell? ⟨w.heap.size,j,none⟩ = some u:=fun j u hu d os=>cell_regrown (cell_newb w _ 41 _ j u rfl hu) d os
 have k0:=KK 0 _ rfl
 have k1:=KK 1 _ rfl
 have k2:=KK 2 _ rfl
 have k3:=KK 3 _ rfl
 have k4:=KK 4 _ rfl
 have k5:=KK 5 _ rfl
 have k6:=KK 6 _ rfl
 have k7:=KK 7 _ rfl
 have k8:=KK 8 _ rfl
 have k9:=KK 9 _ rfl
 have k10:=KK 10 _ rfl
 clear KK
 refine wp_region_quiet_below hm (by kernel_rfl) ?_
 repeat (quiet_step (fail))
 quiet_step (exact c1.out _ _ _)
 repeat (quiet_step (fail))
 quiet_step (exact c2.out _ _ _)
 repeat (quiet_step (fail))
 quiet_step (exact c3.out _ _ _)
 repeat (quiet_step (fail))
 quiet_step (exact c4.out _ _ _)
 repeat (quiet_step (fail))
 refine wpQuiet_nil ?_
 intro _ hw'
 obtain ⟨⟨dq,osq⟩,hw''⟩:=hw'
 subst hw''
 clear k0 k1 k2 k3 k4 k5 k6 k7 k8 k9 k10
 have hbq:=below_regrown (w.alloc (.cells #[.string nm,.int .i64 T',.int .i64 D',.int .i64 C',.int .i64 A',.int .i64 Seg',.int .i64 Cost',.int .i64 M',.int .i64 K',.int .i64 Mo',.int .i64 Prio'] 41)) dq osq
 have hXs:((⟨#[116,97,115,107,32]⟩:ByteArray) ++ nm ++ ⟨#[32]⟩ ++ S1 ++ ⟨#[32]⟩ ++ S2 ++ ⟨#[32]⟩ ++ S3 ++ ⟨#[32]⟩ ++ S4).size ≤ 100:=by
  simp only [ByteArray.size_append]
  rw [show (⟨#[116,97,115,107,32]⟩:ByteArray).size = 5 from rfl,show (⟨#[32]⟩:ByteArray).size = 1 from rfl]
  omega
 generalize hX:(⟨#[116,97,115,107,32]⟩:ByteArray) ++ nm ++ ⟨#[32]⟩ ++ S1 ++ ⟨#[32]⟩ ++ S2 ++ ⟨#[32]⟩ ++ S3 ++ ⟨#[32]⟩ ++ S4 = X at hXs ⊢
 have HX:=Lib.hid hX
 clear hX
 have KQ:∀ (j:Nat) (u:Value),(#[.string nm,.int .i64 T',.int .i64 D',.int .i64 C',.int .i64 A',.int .i64 Seg',.int .i64 Cost',.int .i64 M',.int .i64 K',.int .i64 Mo',.int .i64 Prio']:Array Value).toList[j]? = some u → ∀ d os,(Sort.grow (redrawn (Sort.grow (redrawn (w.alloc (.cells #[.string nm,.int .i64 T',.int .i64 D',.int .i64 C',.int .i64 A',.int .i64 Seg',.int .i64 Cost',.int .i64 M',.int .i64 K',.int .i64 Mo',.int .i64 Prio'] 41)) dq) osq) d) os).cell? ⟨w.heap.size,j,none⟩ = some u:=fun j u hu d os=>cell_regrown (cell_regrown (cell_newb w _ 41 _ j u rfl hu) dq osq) d os
 have q4:=KQ 4 _ rfl
 have q5:=KQ 5 _ rfl
 have q6:=KQ 6 _ rfl
 have q7:=KQ 7 _ rfl
 have q8:=KQ 8 _ rfl
 have q10:=KQ 10 _ rfl
 clear KQ
 have HBQ:=Lib.hid (hb.out.trans (hbq.mono hb.out.size))
 clear hbq
 generalize Sort.grow (redrawn (w.alloc (.cells #[.string nm,.int .i64 T',.int .i64 D',.int .i64 C',.int .i64 A',.int .i64 Seg',.int .i64 Cost',.int .i64 M',.int .i64 K',.int .i64 Mo',.int .i64 Prio'] 41)) dq) osq = w2 at *
 have m0:¬ 9223372036854775807 < X.size + 1:=by omega
 have m1:¬ 9223372036854775807 < X.size + 1 + S5.size:=by omega
 have m2:¬ 9223372036854775807 < X.size + 1 + S5.size + 1:=by omega
 have m3:¬ 9223372036854775807 < X.size + 1 + S5.size + 1 + S6.size:=by omega
 have m4:¬ 9223372036854775807 < X.size + 1 + S5.size + 1 + S6.size + 1:=by omega
 have m5:¬ 9223372036854775807 < X.size + 1 + S5.size + 1 + S6.size + 1 + S7.size:=by omega
 have m6:¬ 9223372036854775807 < X.size + 1 + S5.size + 1 + S6.size + 1 + S7.size + 1:=by omega
 have m7:¬ 9223372036854775807 < X.size + 1 + S5.size + 1 + S6.size + 1 + S7.size + 1 + S8.size:=by omega
 have m8:¬ 9223372036854775807 < X.size + 1 + S5.size + 1 + S6.size + 1 + S7.size + 1 + S8.size + 1:=by omega
 have m9:¬ 9223372036854775807 < X.size + 1 + S5.size + 1 + S6.size + 1 + S7.size + 1 + S8.size + 1 + S9.size:=by omega
 have m10:¬ 9223372036854775807 < X.size + 1 + S5.size + 1 + S6.size + 1 + S7.size + 1 + S8.size + 1 + S9.size + 1:=by omega
 have m11:¬ 9223372036854775807 < X.size + 1 + S5.size + 1 + S6.size + 1 + S7.size + 1 + S8.size + 1 + S9.size + 1 + S0.size:=by omega
 go_wp2_with fail
 refine wp_region_quiet_below hm (by kernel_rfl) ?_
 repeat (quiet_step (fail))
 quiet_step (exact c5.out _ _ _)
 repeat (quiet_step (fail))
 quiet_step (exact c6.out _ _ _)
 repeat (quiet_step (fail))
 quiet_step (exact c7.out _ _ _)
 repeat (quiet_step (fail))
 quiet_step (exact c8.out _ _ _)
 repeat (quiet_step (fail))
 quiet_step (exact c9.out _ _ _)
 repeat (quiet_step (fail))
 quiet_step (exact c0.out _ _ _)
 repeat (quiet_step (fail))
 refine wpQuiet_nil ?_
 intro _ hw'
 obtain ⟨⟨dq2,osq2⟩,hw''⟩:=hw'
 subst hw''
 have hbq2:=below_regrown w2 dq2 osq2
 go_wp2_with fail
 go_ret
 refine ⟨?_,HBQ.out.trans (hbq2.mono HBQ.out.size)⟩
 rw [← HX.out]
 rfl
end
end Go.Proofs.YtnoahekcemfmcaaGreatDoor
