/- A part of the walk: Ve. -/
import Derived.Test.YtnoahekcemfmcaaGreatDoorR33
import Derived.IntWalk
namespace Go.Proofs.YtnoahekcemfmcaaGreatDoor
set_option linter.unusedVariables false
set_option linter.unusedSimpArgs false
set_option maxHeartbeats 80000000
set_option maxRecDepth 100000
section
open Go.RowKit
theorem fz_new (w:World) (cs:Array Value) (T:TypeId) (b:Nat) (hb:b = w.heap.size):(w.alloc (.cells cs T)).frozen? ⟨b,0,none⟩ = false:=by
 subst hb;unfold World.frozen?;rw [map_at];simp
theorem own_two (w:World) (b:Nat) {x y:Int} {B:Nat} (hb:b = w.heap.size) (hB:B ≤ w.heap.size):(w.alloc (.cells #[.int .i64 x,.int .i64 y] 3)).ownsRow B 3 1 (.slice (some ⟨b,0,none⟩) 2 2) 2 (intsV [x,y]):=by
 subst hb
 exact World.ownsRow_lit (size:=1) (e:=3) w #[.int .i64 x,.int .i64 y] 2 hB (by unfold maxLen;omega) rfl
theorem pv_start {B bp bs:Nat} {x y:Int} {w w1:World} (hb:Below w1.heap.size w1 w) (ho:w.ownsRow B 3 1 (.slice (some ⟨bs,0,none⟩) 2 2) 2 (intsV [x,y])) (hc:w.cell? ⟨bp,0,none⟩ = some (.slice none 0 0)) (hz:w.frozen? ⟨bp,0,none⟩ = false) (hne:¬ (Value.slice (some ⟨bs,0,none⟩) 2 2).ownBlock = some bp) :
  PV B bp [x,y] (.slice (some ⟨bs,0,none⟩) 2 2) (w.setCell ⟨bp,0,none⟩ (.slice (some ⟨bs,0,none⟩) 2 2)) :=
 ⟨World.cell?_setCell_same _ _ _ hc,by rw [World.frozen?_setCell];exact hz,own_fr2 ho ((Fr.refl (fun q=>q = bp) w).setCell (p:=⟨bp,0,none⟩) rfl _) (fun q e t=>hne (by rw [e,t])),hne⟩
def prs (tk:Nat → Tk) (i:Nat) (t:Int):Nat → List Int
 | 0=>[]
 | k + 1=>prs tk i t k ++ (if (tk k).Prio < (tk i).Prio then [ceilI t (tk k).T * wholeT (tk k)] else [])
theorem prs_len (tk:Nat → Tk) (i:Nat) (t:Int) (k:Nat):(prs tk i t k).length ≤ k:=by
 induction k with
 | zero=>exact Nat.le_refl _
 | succ k ih=>unfold prs;rw [List.length_append];split <;> simp <;> omega
theorem prs_sum (tk:Nat → Tk) (i:Nat) (t:Int) (k:Nat):sumI (prs tk i t k) = S (fun k=>if (tk k).Prio < (tk i).Prio then ceilI t (tk k).T * wholeT (tk k) else 0) k:=by
 induction k with
 | zero=>rfl
 | succ k ih =>
  unfold prs S
  unfold sumI at *
  rw [List.sum_append,ih]
  split <;> simp
theorem ceil_bd {t T:Int} (h0:0 ≤ t) (h1:t ≤ 1048576) (hT:1 ≤ T):0 ≤ ceilI t T ∧ ceilI t T ≤ 1048576:=by
 unfold ceilI
 refine ⟨Int.ediv_nonneg (by omega) (by omega),?_⟩
 rw [Int.ediv_le_iff_le_mul (by omega)]
 have:(1048576:Int) * T ≥ 1048576 * 1:=Int.mul_le_mul_of_nonneg_left hT (by omega)
 have h2:0 ≤ (1048576 - t) * (T - 1):=Int.mul_nonneg (by omega) (by omega)
 have h3:(1048576 - t) * (T - 1) = 1048576 * T - 1048576 - (t * T - t):=by rw [Int.sub_mul,Int.mul_sub,Int.mul_sub];omega
 have h4:t * 1 ≤ t * T:=Int.mul_le_mul_of_nonneg_left hT h0
 omega
theorem most_bd {t b g:Int} (h0:0 ≤ t) (h1:t ≤ 1048576) (hb:1 ≤ b) (hb2:b ≤ 1000) (hg:1 ≤ g):0 ≤ mostI t b g ∧ mostI t b g ≤ 1049576:=by
 unfold mostI
 split
 ·omega
 ·refine ⟨Int.ediv_nonneg (by omega) (by omega),?_⟩
  rw [Int.ediv_le_iff_le_mul (by omega)]
  have h4:(1049576:Int) * 1 ≤ 1049576 * g:=Int.mul_le_mul_of_nonneg_left hg (by omega)
  have h2:0 ≤ (1049576 - (t + b - 1)) * (g - 1):=Int.mul_nonneg (by omega) (by omega)
  have h3:(1049576 - (t + b - 1)) * (g - 1) = 1049576 * g - 1049576 - ((t + b - 1) * g - (t + b - 1)):=by rw [Int.sub_mul,Int.mul_sub,Int.mul_sub];omega
  have h5:(t + b - 1) * 1 ≤ (t + b - 1) * g:=Int.mul_le_mul_of_nonneg_left hg (by omega)
  omega
theorem prs_bd {tk:Nat → Tk} {n:Nat} (hok:∀ k,k < n → (tk k).Ok) (i:Nat) {t:Int} (h0:0 ≤ t) (h1:t ≤ 1048576) (k:Nat) (hk:k ≤ n):∀ x ∈ prs tk i t k,0 ≤ x ∧ x ≤ 72057594037927936:=by
 induction k with
 | zero=>intro x hx;cases hx
 | succ k ih =>
  intro x hx
  unfold prs at hx
  rw [List.mem_append] at hx
  rcases hx with hx | hx
  ·exact ih (by omega) x hx
  ·split at hx
   ·simp at hx
    subst hx
    have ht:=hok k (by omega)
    have hc:=ceil_bd (T:=(tk k).T) h0 h1 (by have:=ht.c1;have:=ht.cd;have:=ht.dt;omega)
    have hw:=whole_bd ht
    have h2:ceilI t (tk k).T * wholeT (tk k) ≤ 1048576 * 1049624576:=Int.mul_le_mul hc.2 hw.2 hw.1 (by omega)
    exact ⟨Int.mul_nonneg hc.1 hw.1,by omega⟩
   ·cases hx
theorem next_any (B:Nat) (bu:Int) (a:Option Addr) (n c:Nat) (tk:Nat → Tk) (i:Nat) (g t:Int) (w:World) (hS:SetOk bu n tk) (hx:TksIn B w a n tk) (hB:B ≤ w.heap.size) (hi:i < n) (hg:1 ≤ g) (hg2:g ≤ 1049576) (ht:0 ≤ t) (ht2:t ≤ 1048576) :
  Calls Tryz.prog 82 #[.agg #[.int .i64 bu,.slice a n c],.int .i64 i,.int .i64 g,.int .i64 t] w fun e w'=>e = .returned (.tuple #[.int .i64 (nextW tk n i bu g (aheadS tk n i) (dearS tk n i) t),.bool true]) ∧ Below w.heap.size w w':=by
 have hb0:=bel_alloc (Below.refl w.heap.size w) (.cells #[.int .i64 bu,.slice a n c] 24)
 have hbox0:=cell_newb w #[.int .i64 bu,.slice a n c] 24 _ 0 _ rfl rfl
 have hbox1:=cell_newb w #[.int .i64 bu,.slice a n c] 24 _ 1 _ rfl rfl
 have hsz:=one_lt w (.cells #[.int .i64 bu,.slice a n c] 24)
 have hx1:=Lib.hid (hx.keep (hb0.mono hB))
 have HB0:=Lib.hid hb0
 have HOK:=Lib.hid hS.ok
 have hn16:=hS.n2
 have hbu1:=hS.b1
 have hbu2:=hS.b2
 have hnI:(n:Int) ≤ 16:=by omega
 have hiI:(i:Int) < (n:Int):=by omega
 have hi0:(0:Int) ≤ (i:Int):=by omega
 obtain ⟨b,off,rfl,hbB,hcc⟩:=hx (by omega)
 have HCC:=Lib.hid (fun j hj=>rg_below (hb0.mono hB) hbB (hcc j hj))
 have HTI:=Lib.hid (whole_any (tk i) (HOK.out i hi))
 have hbd1:=whole_bd (HOK.out i hi)
 have hbd2:=ahead_bd HOK.out i
 have hbd3:=dear_bd HOK.out i
 have hbd4:=most_bd (b:=bu) (g:=g) ht ht2 hbu1 hbu2 hg
 obtain ⟨W0,hW0⟩:∃ W0,wholeT (tk i) = W0:=⟨_,rfl⟩
 obtain ⟨A0,hA0⟩:∃ A0,aheadS tk n i = A0:=⟨_,rfl⟩
 obtain ⟨D0,hD0⟩:∃ D0,dearS tk n i = D0:=⟨_,rfl⟩
 obtain ⟨M0,hM0⟩:∃ M0,mostI t bu g = M0:=⟨_,rfl⟩
 rw [hW0] at HTI hbd1
 rw [hA0] at hbd2
 rw [hD0] at hbd3
 rw [hM0] at hbd4
 have hbD:0 ≤ bu * D0 ∧ bu * D0 ≤ 1049576000:=⟨Int.mul_nonneg (by omega) hbd3.1,by have:=Int.mul_le_mul hbu2 hbd3.2 hbd3.1 (by omega:(0:Int) ≤ 1000);omega⟩
 obtain ⟨BD,hBD⟩:∃ BD,bu * D0 = BD:=⟨_,rfl⟩
 have hwr1:wrap64 (bu * D0) = BD:=by rw [w64 (by omega) (by omega)];exact hBD
 have hwr2:IntKind.i64.wrap (bu * D0) = BD:=by rw [IntWalk.i64_in _ (by omega)];exact hBD
 have HBDE:=Lib.hid hBD
 rw [hBD] at hbD
 clear hBD
 have HAA:Hid (∀ W,Below w.heap.size w W → Calls Tryz.prog 114 #[.agg #[.int .i64 bu,.slice (some ⟨b,off,none⟩) n c],.int .i64 i] W fun e w'=>e = .returned (.int .i64 A0) ∧ Below W.heap.size W w'):=fun W hW=>by
  rw [← hA0];exact ahead_any B bu _ n c tk i W (hx.keep (hW.mono hB)) (by have:=hW.size;omega) hn16 hi HOK.out
 have HDD:Hid (∀ W,Below w.heap.size w W → Calls Tryz.prog 118 #[.agg #[.int .i64 bu,.slice (some ⟨b,off,none⟩) n c],.int .i64 i] W fun e w'=>e = .returned (.int .i64 D0) ∧ Below W.heap.size W w'):=fun W hW=>by
  rw [← hD0];exact dear_any B bu _ n c tk i W (hx.keep (hW.mono hB)) (by have:=hW.size;omega) hn16 hi HOK.out
 have HMM:Hid (∀ W,Calls Tryz.prog 117 #[.int .i64 t,.int .i64 bu,.int .i64 g] W fun e w'=>e = .returned (.int .i64 M0) ∧ w' = W):=fun W=>by
  rw [← hM0];exact most_any t bu g W ht ht2 hbu1 hbu2 hg hg2
 have HEND:Hid (∀ l,l = [W0,A0,M0 * BD] ++ prs tk i t n → sumI l = nextW tk n i bu g (aheadS tk n i) (dearS tk n i) t):=fun l hl=>by
  rw [hl]
  show ([W0,A0,M0 * BD] ++ prs tk i t n).sum = _
  have hp:=prs_sum tk i t n
  unfold sumI at hp
  rw [List.sum_append,hp]
  unfold nextW
  rw [hW0,hA0,hD0,hM0,HBDE.out,Int.mul_comm M0]
  simp only [List.sum_cons,List.sum_nil]
  omega
 obtain ⟨i3,ki3,kz31,kz32,kz33⟩:=info_parts Tryz.info3
 clear hx hb0 hcc hS hW0 hA0 hD0 hM0
 go_enter Tryz.func82,Tryz.ntmps82
 go_upto_region 1 with fail
 generalize w.alloc (.cells #[.int .i64 bu,.slice (some ⟨b,off,none⟩) n c] 24) = w1 at hbox0 hbox1 hsz hx1 HB0 HCC ⊢
 go_cut [10] (fun s10 wx=>∃ bp pv,s10 = .pointer (some ⟨bp,0,none⟩) ∧ Hid (PV w1.heap.size bp [W0,A0] pv wx) ∧ Hid (Below w1.heap.size w1 wx) ∧ w1.heap.size ≤ bp)
 case first =>
  have hbl:b < w1.heap.size:=block_lt (HCC.out i hi 0 _ rfl)
  have HQ:Hid (∀ w',Below w1.heap.size w1 w' → w'.cell? ⟨w.heap.size,0,none⟩ = some (.int .i64 bu) ∧ w'.cell? ⟨w.heap.size,1,none⟩ = some (.slice (some ⟨b,off,none⟩) n c) ∧ w'.rangeAt b (off + i * 11) (tkc (tk i)) ∧ Below w1.heap.size w1 w'):=fun w' hb=>⟨cell_bel hb hbox0,cell_bel hb hbox1,rg_below hb hbl (HCC.out i hi),hb⟩
  refine wp_region_held_drew (S:=(fun w'=>w'.cell? ⟨w.heap.size,0,none⟩ = some (.int .i64 bu) ∧ w'.cell? ⟨w.heap.size,1,none⟩ = some (.slice (some ⟨b,off,none⟩) n c) ∧ w'.rangeAt b (off + i * 11) (tkc (tk i)) ∧ Below w1.heap.size w1 w')) (by kernel_rfl) ?hS0n (fun hHeld=>?_)
  case hS0n=>(try dsimp only);exact HQ.out _ ⟨rfl,rfl,rfl,Nat.le_refl _,fun _ _=>rfl⟩
  refine wtk (i:=0) ?_
  try simp only [Act.put,List.setIfInBounds_toArray,List.set]
  refine wtk (i:=1) ?_
  try simp only [Act.put,List.setIfInBounds_toArray,List.set]
  refine wtk (i:=2) ?_
  try simp only [Act.put,List.setIfInBounds_toArray,List.set]
  refine wtk (i:=3) ?_
  try simp only [Act.put,List.setIfInBounds_toArray,List.set]
  refine wpAnyH_take (i := 4) (oi := { dst := some 23, op := Op.load 41 (Operand.tmp 22), type := 41, pos := "fix.go:35", after := #[{ on := 3, ground := Ground.data }], guard := none }) rfl (by kernel_rfl) (by kernel_rfl) (by kernel_rfl) (fun _ _ _ h => h) (yieldsIf_load_mid (by rfl) 41 _ rfl b (off + i * 11) rfl (tkc (tk i)) _ ?hSn5 Tryz.underlying41 rfl Tryz.size41) (by assumption) ?_
  case hSn5=>(intro wS hSw;(try dsimp only at hSw);exact hSw.2.2.1)
  try simp only [Act.put,List.setIfInBounds_toArray,List.set]
  refine wtk (i:=6) ?_
  try simp only [Act.put,List.setIfInBounds_toArray,List.set]
  refine wtk (i:=7) ?_
  try simp only [Act.put,List.setIfInBounds_toArray,List.set]
  refine wpAnyH_ready (rs:=[5,10]) (by kernel_rfl) (by simp) ?_
  refine arc (fun K hK=>?_) ?_
  ·skip
   go_simp
   go_at_call 113
   refine (HTI.out _).mono ?_
   rintro e w55 ⟨rfl,hq5⟩
   have hb5:Below w1.heap.size w1 w55:=((show Below w1.heap.size w1 w1.drew from ⟨rfl,rfl,rfl,Nat.le_refl _,fun _ _=>rfl⟩)).trans (hq5.mono ((show Below w1.heap.size w1 w1.drew from ⟨rfl,rfl,rfl,Nat.le_refl _,fun _ _=>rfl⟩)).size)
   clear hq5
   refine hK.out _ _ ?hSn8 (fun hHeld2=>?hrn8)
   case hSn8=>(try dsimp only);exact HQ.out _ hb5
   clear hK K hHeld
   have hHeld:=hHeld2
   clear hHeld2
   try simp only [Act.put,List.setIfInBounds_toArray,List.set]
   refine wpAnyH_ready (rs:=[8,10]) (by kernel_rfl) (by simp) ?_
   refine arc (fun K hK=>?_) ?_
   ·skip
    go_simp
    go_at_call 114
    refine (HAA.out _ (HB0.out.trans ((hb5).mono HB0.out.size))).mono ?_
    rintro e w858 ⟨rfl,hq8⟩
    have hb58:Below w1.heap.size w1 w858:=(hb5).trans (hq8.mono (hb5).size)
    clear hq8
    refine hK.out _ _ ?hSn9 (fun hHeld2=>?hrn9)
    case hSn9=>(try dsimp only);exact HQ.out _ hb58
    clear hK K hHeld
    have hHeld:=hHeld2
    clear hHeld2
    try simp only [Act.put,List.setIfInBounds_toArray,List.set]
    refine wpAnyH_ready (rs:=[9,10]) (by kernel_rfl) (by simp) ?_
    refine arc (fun K hK=>?_) ?_
    ·skip
     go_simp
     have hb589:Below w1.heap.size w1 (w858.alloc (.cells #[.int .i64 W0,.int .i64 A0] 3)):=(hb58).trans ((bel_alloc (Below.refl _ _) _).mono (hb58).size)
     have ho589:(w858.alloc (.cells #[.int .i64 W0,.int .i64 A0] 3)).ownsRow w1.heap.size 3 1 (.slice (some ⟨w858.heap.size,0,none⟩) 2 2) 2 (intsV [W0,A0]):=own_two w858 _ (by first | rfl | simp) (hb58).size
     refine hK.out _ _ ?hSn10 (fun hHeld2=>?hrn10)
     case hSn10=>(try dsimp only);exact HQ.out _ hb589
     clear hK K hHeld
     have hHeld:=hHeld2
     clear hHeld2
     try simp only [Act.put,List.setIfInBounds_toArray,List.set]
     refine wpAnyH_ready (rs:=[10]) (by kernel_rfl) (by simp) ?_
     refine arc (fun K hK=>?_) AllReadyH.nil
     go_simp
     have hb58910:Below w1.heap.size w1 ((w858.alloc (.cells #[.int .i64 W0,.int .i64 A0] 3)).alloc (.cells #[.slice none 0 0] 28)):=(hb589).trans ((bel_alloc (Below.refl _ _) _).mono (hb589).size)
     have hc58910:((w858.alloc (.cells #[.int .i64 W0,.int .i64 A0] 3)).alloc (.cells #[.slice none 0 0] 28)).cell? ⟨(w858.heap.size + 1),0,none⟩ = some (.slice none 0 0):=cell_newb _ _ _ _ 0 _ (by first | rfl | simp) rfl
     have hz58910:((w858.alloc (.cells #[.int .i64 W0,.int .i64 A0] 3)).alloc (.cells #[.slice none 0 0] 28)).frozen? ⟨(w858.heap.size + 1),0,none⟩ = false:=fz_new _ _ _ _ (by first | rfl | simp)
     have hp58910:w1.heap.size ≤ (w858.heap.size + 1):=by have h1:=(hb589).size;first | omega | (simp at h1;omega) | (simp at h1 ⊢;done)
     have ho58910:=own_fr2 ho589 (Fr.of_below (S:=fun _=>False) (bel_alloc (Below.refl (w858.alloc (.cells #[.int .i64 W0,.int .i64 A0] 3)).heap.size (w858.alloc (.cells #[.int .i64 W0,.int .i64 A0] 3))) (.cells #[.slice none 0 0] 28))) (fun _ _ t=>t)
     have hne58910:¬ (Value.slice (some ⟨w858.heap.size,0,none⟩) 2 2).ownBlock = some (w858.heap.size + 1):=fun e=>by have h1:=(ho589).lt _ rfl;simp [Value.ownBlock] at e h1 <;> omega
     refine hK.out _ _ ?hSn11 (fun hHeld2=>?hrn11)
     case hSn11=>(try dsimp only);exact HQ.out _ hb58910
     clear hK K hHeld
     have hHeld:=hHeld2
     clear hHeld2
     try simp only [Act.put,List.setIfInBounds_toArray,List.set]
     have hcb:=hc58910
     have hlb:=block_lt hcb
     have hbp1:w1.heap.size ≤ (w858.heap.size + 1):=hp58910
     have HPV:=Lib.hid (pv_start (B:=w1.heap.size) (hb58910) ho58910 hcb hz58910 (hne58910))
     have HBF:Hid (Below w1.heap.size w1 (((w858.alloc (.cells #[.int .i64 W0,.int .i64 A0] 3)).alloc (.cells #[.slice none 0 0] 28)).setCell ⟨(w858.heap.size + 1),0,none⟩ (.slice (some ⟨w858.heap.size,0,none⟩) 2 2))):=(hb58910).setCell (p:=⟨(w858.heap.size + 1),0,none⟩) hbp1 _
     refine wpAnyH_ready (rs:=[11]) (by kernel_rfl) (by simp) ?_
     refine arc (fun K hK=>?_) AllReadyH.nil
     go_simp
     refine hK.out _ _ ?hSn12 (fun hHeld2=>?hrn12)
     case hSn12=>(try dsimp only);exact HQ.out _ (by first | exact HBF.out | (have h:=HBF.out;simp [World.setCell_alloc_at,World.setCell_alloc_past] at h;exact h))
     clear hK K hHeld
     have hHeld:=hHeld2
     clear hHeld2
     try simp only [Act.put,List.setIfInBounds_toArray,List.set]
     refine wpAnyH_done (by kernel_rfl) ?_ _
     go_wp2_with fail
     go_meet
     case rel=>exact ⟨_,_,rfl,(by first | exact HPV | (have h:=HPV.out;simp [World.setCell_alloc_at,World.setCell_alloc_past] at h;exact h)),(by first | exact HBF | (have h:=HBF.out;simp [World.setCell_alloc_at,World.setCell_alloc_past] at h;exact h)),hbp1⟩
    refine arc (fun K hK=>?_) ?_
    ·skip
     go_simp
     have hb5810:Below w1.heap.size w1 (w858.alloc (.cells #[.slice none 0 0] 28)):=(hb58).trans ((bel_alloc (Below.refl _ _) _).mono (hb58).size)
     have hc5810:(w858.alloc (.cells #[.slice none 0 0] 28)).cell? ⟨w858.heap.size,0,none⟩ = some (.slice none 0 0):=cell_newb _ _ _ _ 0 _ (by first | rfl | simp) rfl
     have hz5810:(w858.alloc (.cells #[.slice none 0 0] 28)).frozen? ⟨w858.heap.size,0,none⟩ = false:=fz_new _ _ _ _ (by first | rfl | simp)
     have hp5810:w1.heap.size ≤ w858.heap.size:=by have h1:=(hb58).size;first | omega | (simp at h1;omega) | (simp at h1 ⊢;done)
     refine hK.out _ _ ?hSn13 (fun hHeld2=>?hrn13)
     case hSn13=>(try dsimp only);exact HQ.out _ hb5810
     clear hK K hHeld
     have hHeld:=hHeld2
     clear hHeld2
     try simp only [Act.put,List.setIfInBounds_toArray,List.set]
     refine wpAnyH_ready (rs:=[9]) (by kernel_rfl) (by simp) ?_
     refine arc (fun K hK=>?_) AllReadyH.nil
     go_simp
     have hb58910:Below w1.heap.size w1 ((w858.alloc (.cells #[.slice none 0 0] 28)).alloc (.cells #[.int .i64 W0,.int .i64 A0] 3)):=(hb5810).trans ((bel_alloc (Below.refl _ _) _).mono (hb5810).size)
     have ho58910:((w858.alloc (.cells #[.slice none 0 0] 28)).alloc (.cells #[.int .i64 W0,.int .i64 A0] 3)).ownsRow w1.heap.size 3 1 (.slice (some ⟨(w858.heap.size + 1),0,none⟩) 2 2) 2 (intsV [W0,A0]):=own_two (w858.alloc (.cells #[.slice none 0 0] 28)) _ (by first | rfl | simp) (hb5810).size
     have hc58910:=cell_bel (bel_alloc (Below.refl (w858.alloc (.cells #[.slice none 0 0] 28)).heap.size (w858.alloc (.cells #[.slice none 0 0] 28))) (.cells #[.int .i64 W0,.int .i64 A0] 3)) (hc5810)
     have hz58910:=((Fr.of_below (S:=fun _=>False) (bel_alloc (Below.refl (w858.alloc (.cells #[.slice none 0 0] 28)).heap.size (w858.alloc (.cells #[.slice none 0 0] 28))) (.cells #[.int .i64 W0,.int .i64 A0] 3))).frozen (p:=⟨w858.heap.size,0,none⟩) (block_lt (hc5810)) (fun t=>t)).trans (hz5810)
     have hne58910:¬ (Value.slice (some ⟨(w858.heap.size + 1),0,none⟩) 2 2).ownBlock = some w858.heap.size:=fun e=>by have h1:=block_lt (hc5810);simp [Value.ownBlock] at e h1 <;> omega
     refine hK.out _ _ ?hSn14 (fun hHeld2=>?hrn14)
     case hSn14=>(try dsimp only);exact HQ.out _ hb58910
     clear hK K hHeld
     have hHeld:=hHeld2
     clear hHeld2
     try simp only [Act.put,List.setIfInBounds_toArray,List.set]
     have hcb:=hc58910
     have hlb:=block_lt hcb
     have hbp1:w1.heap.size ≤ w858.heap.size:=hp5810
     have HPV:=Lib.hid (pv_start (B:=w1.heap.size) (hb58910) ho58910 hcb hz58910 (hne58910))
     have HBF:Hid (Below w1.heap.size w1 (((w858.alloc (.cells #[.slice none 0 0] 28)).alloc (.cells #[.int .i64 W0,.int .i64 A0] 3)).setCell ⟨w858.heap.size,0,none⟩ (.slice (some ⟨(w858.heap.size + 1),0,none⟩) 2 2))):=(hb58910).setCell (p:=⟨w858.heap.size,0,none⟩) hbp1 _
     refine wpAnyH_ready (rs:=[11]) (by kernel_rfl) (by simp) ?_
     refine arc (fun K hK=>?_) AllReadyH.nil
     go_simp
     refine hK.out _ _ ?hSn15 (fun hHeld2=>?hrn15)
     case hSn15=>(try dsimp only);exact HQ.out _ (by first | exact HBF.out | (have h:=HBF.out;simp [World.setCell_alloc_at,World.setCell_alloc_past] at h;exact h))
     clear hK K hHeld
     have hHeld:=hHeld2
     clear hHeld2
     try simp only [Act.put,List.setIfInBounds_toArray,List.set]
     refine wpAnyH_done (by kernel_rfl) ?_ _
     go_wp2_with fail
     go_meet
     case rel=>exact ⟨_,_,rfl,(by first | exact HPV | (have h:=HPV.out;simp [World.setCell_alloc_at,World.setCell_alloc_past] at h;exact h)),(by first | exact HBF | (have h:=HBF.out;simp [World.setCell_alloc_at,World.setCell_alloc_past] at h;exact h)),hbp1⟩
    exact AllReadyH.nil
   refine arc (fun K hK=>?_) ?_
   ·skip
    go_simp
    have hb510:Below w1.heap.size w1 (w55.alloc (.cells #[.slice none 0 0] 28)):=(hb5).trans ((bel_alloc (Below.refl _ _) _).mono (hb5).size)
    have hc510:(w55.alloc (.cells #[.slice none 0 0] 28)).cell? ⟨w55.heap.size,0,none⟩ = some (.slice none 0 0):=cell_newb _ _ _ _ 0 _ (by first | rfl | simp) rfl
    have hz510:(w55.alloc (.cells #[.slice none 0 0] 28)).frozen? ⟨w55.heap.size,0,none⟩ = false:=fz_new _ _ _ _ (by first | rfl | simp)
    have hp510:w1.heap.size ≤ w55.heap.size:=by have h1:=(hb5).size;first | omega | (simp at h1;omega) | (simp at h1 ⊢;done)
    refine hK.out _ _ ?hSn16 (fun hHeld2=>?hrn16)
    case hSn16=>(try dsimp only);exact HQ.out _ hb510
    clear hK K hHeld
    have hHeld:=hHeld2
    clear hHeld2
    try simp only [Act.put,List.setIfInBounds_toArray,List.set]
    refine wpAnyH_ready (rs:=[8]) (by kernel_rfl) (by simp) ?_
    refine arc (fun K hK=>?_) AllReadyH.nil
    go_simp
    go_at_call 114
    refine (HAA.out _ (HB0.out.trans ((hb510).mono HB0.out.size))).mono ?_
    rintro e w85810 ⟨rfl,hq8⟩
    have hb5810:Below w1.heap.size w1 w85810:=(hb510).trans (hq8.mono (hb510).size)
    have hc5810:=cell_bel hq8 (hc510)
    have hz5810:=((Fr.of_below (S:=fun _=>False) hq8).frozen (p:=⟨w55.heap.size,0,none⟩) (block_lt (hc510)) (fun t=>t)).trans (hz510)
    clear hq8
    refine hK.out _ _ ?hSn17 (fun hHeld2=>?hrn17)
    case hSn17=>(try dsimp only);exact HQ.out _ hb5810
    clear hK K hHeld
    have hHeld:=hHeld2
    clear hHeld2
    try simp only [Act.put,List.setIfInBounds_toArray,List.set]
    refine wpAnyH_ready (rs:=[9]) (by kernel_rfl) (by simp) ?_
    refine arc (fun K hK=>?_) AllReadyH.nil
    go_simp
    have hb58910:Below w1.heap.size w1 (w85810.alloc (.cells #[.int .i64 W0,.int .i64 A0] 3)):=(hb5810).trans ((bel_alloc (Below.refl _ _) _).mono (hb5810).size)
    have ho58910:(w85810.alloc (.cells #[.int .i64 W0,.int .i64 A0] 3)).ownsRow w1.heap.size 3 1 (.slice (some ⟨w85810.heap.size,0,none⟩) 2 2) 2 (intsV [W0,A0]):=own_two w85810 _ (by first | rfl | simp) (hb5810).size
    have hc58910:=cell_bel (bel_alloc (Below.refl w85810.heap.size w85810) (.cells #[.int .i64 W0,.int .i64 A0] 3)) (hc5810)
    have hz58910:=((Fr.of_below (S:=fun _=>False) (bel_alloc (Below.refl w85810.heap.size w85810) (.cells #[.int .i64 W0,.int .i64 A0] 3))).frozen (p:=⟨w55.heap.size,0,none⟩) (block_lt (hc5810)) (fun t=>t)).trans (hz5810)
    have hne58910:¬ (Value.slice (some ⟨w85810.heap.size,0,none⟩) 2 2).ownBlock = some w55.heap.size:=fun e=>by have h1:=block_lt (hc5810);simp [Value.ownBlock] at e h1 <;> omega
    refine hK.out _ _ ?hSn18 (fun hHeld2=>?hrn18)
    case hSn18=>(try dsimp only);exact HQ.out _ hb58910
    clear hK K hHeld
    have hHeld:=hHeld2
    clear hHeld2
    try simp only [Act.put,List.setIfInBounds_toArray,List.set]
    have hcb:=hc58910
    have hlb:=block_lt hcb
    have hbp1:w1.heap.size ≤ w55.heap.size:=hp510
    have HPV:=Lib.hid (pv_start (B:=w1.heap.size) (hb58910) ho58910 hcb hz58910 (hne58910))
    have HBF:Hid (Below w1.heap.size w1 ((w85810.alloc (.cells #[.int .i64 W0,.int .i64 A0] 3)).setCell ⟨w55.heap.size,0,none⟩ (.slice (some ⟨w85810.heap.size,0,none⟩) 2 2))):=(hb58910).setCell (p:=⟨w55.heap.size,0,none⟩) hbp1 _
    refine wpAnyH_ready (rs:=[11]) (by kernel_rfl) (by simp) ?_
    refine arc (fun K hK=>?_) AllReadyH.nil
    go_simp
    refine hK.out _ _ ?hSn19 (fun hHeld2=>?hrn19)
    case hSn19=>(try dsimp only);exact HQ.out _ (by first | exact HBF.out | (have h:=HBF.out;simp [World.setCell_alloc_at,World.setCell_alloc_past] at h;exact h))
    clear hK K hHeld
    have hHeld:=hHeld2
    clear hHeld2
    try simp only [Act.put,List.setIfInBounds_toArray,List.set]
    refine wpAnyH_done (by kernel_rfl) ?_ _
    go_wp2_with fail
    go_meet
    case rel=>exact ⟨_,_,rfl,(by first | exact HPV | (have h:=HPV.out;simp [World.setCell_alloc_at,World.setCell_alloc_past] at h;exact h)),(by first | exact HBF | (have h:=HBF.out;simp [World.setCell_alloc_at,World.setCell_alloc_past] at h;exact h)),hbp1⟩
   exact AllReadyH.nil
  refine arc (fun K hK=>?_) ?_
  ·skip
   go_simp
   have hb10:Below w1.heap.size w1 (w1.drew.alloc (.cells #[.slice none 0 0] 28)):=((show Below w1.heap.size w1 w1.drew from ⟨rfl,rfl,rfl,Nat.le_refl _,fun _ _=>rfl⟩)).trans ((bel_alloc (Below.refl _ _) _).mono ((show Below w1.heap.size w1 w1.drew from ⟨rfl,rfl,rfl,Nat.le_refl _,fun _ _=>rfl⟩)).size)
   have hc10:(w1.drew.alloc (.cells #[.slice none 0 0] 28)).cell? ⟨w1.heap.size,0,none⟩ = some (.slice none 0 0):=cell_newb _ _ _ _ 0 _ (by first | rfl | simp) rfl
   have hz10:(w1.drew.alloc (.cells #[.slice none 0 0] 28)).frozen? ⟨w1.heap.size,0,none⟩ = false:=fz_new _ _ _ _ (by first | rfl | simp)
   have hp10:w1.heap.size ≤ w1.heap.size:=by have h1:=((show Below w1.heap.size w1 w1.drew from ⟨rfl,rfl,rfl,Nat.le_refl _,fun _ _=>rfl⟩)).size;first | omega | (simp at h1;omega) | (simp at h1 ⊢;done)
   refine hK.out _ _ ?hSn20 (fun hHeld2=>?hrn20)
   case hSn20=>(try dsimp only);exact HQ.out _ hb10
   clear hK K hHeld
   have hHeld:=hHeld2
   clear hHeld2
   try simp only [Act.put,List.setIfInBounds_toArray,List.set]
   refine wpAnyH_ready (rs:=[5]) (by kernel_rfl) (by simp) ?_
   refine arc (fun K hK=>?_) AllReadyH.nil
   go_simp
   go_at_call 113
   refine (HTI.out _).mono ?_
   rintro e w5510 ⟨rfl,hq5⟩
   have hb510:Below w1.heap.size w1 w5510:=(hb10).trans (hq5.mono (hb10).size)
   have hc510:=cell_bel hq5 (hc10)
   have hz510:=((Fr.of_below (S:=fun _=>False) hq5).frozen (p:=⟨w1.heap.size,0,none⟩) (block_lt (hc10)) (fun t=>t)).trans (hz10)
   clear hq5
   refine hK.out _ _ ?hSn21 (fun hHeld2=>?hrn21)
   case hSn21=>(try dsimp only);exact HQ.out _ hb510
   clear hK K hHeld
   have hHeld:=hHeld2
   clear hHeld2
   try simp only [Act.put,List.setIfInBounds_toArray,List.set]
   refine wpAnyH_ready (rs:=[8]) (by kernel_rfl) (by simp) ?_
   refine arc (fun K hK=>?_) AllReadyH.nil
   go_simp
   go_at_call 114
   refine (HAA.out _ (HB0.out.trans ((hb510).mono HB0.out.size))).mono ?_
   rintro e w85810 ⟨rfl,hq8⟩
   have hb5810:Below w1.heap.size w1 w85810:=(hb510).trans (hq8.mono (hb510).size)
   have hc5810:=cell_bel hq8 (hc510)
   have hz5810:=((Fr.of_below (S:=fun _=>False) hq8).frozen (p:=⟨w1.heap.size,0,none⟩) (block_lt (hc510)) (fun t=>t)).trans (hz510)
   clear hq8
   refine hK.out _ _ ?hSn22 (fun hHeld2=>?hrn22)
   case hSn22=>(try dsimp only);exact HQ.out _ hb5810
   clear hK K hHeld
   have hHeld:=hHeld2
   clear hHeld2
   try simp only [Act.put,List.setIfInBounds_toArray,List.set]
   refine wpAnyH_ready (rs:=[9]) (by kernel_rfl) (by simp) ?_
   refine arc (fun K hK=>?_) AllReadyH.nil
   go_simp
   have hb58910:Below w1.heap.size w1 (w85810.alloc (.cells #[.int .i64 W0,.int .i64 A0] 3)):=(hb5810).trans ((bel_alloc (Below.refl _ _) _).mono (hb5810).size)
   have ho58910:(w85810.alloc (.cells #[.int .i64 W0,.int .i64 A0] 3)).ownsRow w1.heap.size 3 1 (.slice (some ⟨w85810.heap.size,0,none⟩) 2 2) 2 (intsV [W0,A0]):=own_two w85810 _ (by first | rfl | simp) (hb5810).size
   have hc58910:=cell_bel (bel_alloc (Below.refl w85810.heap.size w85810) (.cells #[.int .i64 W0,.int .i64 A0] 3)) (hc5810)
   have hz58910:=((Fr.of_below (S:=fun _=>False) (bel_alloc (Below.refl w85810.heap.size w85810) (.cells #[.int .i64 W0,.int .i64 A0] 3))).frozen (p:=⟨w1.heap.size,0,none⟩) (block_lt (hc5810)) (fun t=>t)).trans (hz5810)
   have hne58910:¬ (Value.slice (some ⟨w85810.heap.size,0,none⟩) 2 2).ownBlock = some w1.heap.size:=fun e=>by have h1:=block_lt (hc5810);simp [Value.ownBlock] at e h1 <;> omega
   refine hK.out _ _ ?hSn23 (fun hHeld2=>?hrn23)
   case hSn23=>(try dsimp only);exact HQ.out _ hb58910
   clear hK K hHeld
   have hHeld:=hHeld2
   clear hHeld2
   try simp only [Act.put,List.setIfInBounds_toArray,List.set]
   have hcb:=hc58910
   have hlb:=block_lt hcb
   have hbp1:w1.heap.size ≤ w1.heap.size:=hp10
   have HPV:=Lib.hid (pv_start (B:=w1.heap.size) (hb58910) ho58910 hcb hz58910 (hne58910))
   have HBF:Hid (Below w1.heap.size w1 ((w85810.alloc (.cells #[.int .i64 W0,.int .i64 A0] 3)).setCell ⟨w1.heap.size,0,none⟩ (.slice (some ⟨w85810.heap.size,0,none⟩) 2 2))):=(hb58910).setCell (p:=⟨w1.heap.size,0,none⟩) hbp1 _
   refine wpAnyH_ready (rs:=[11]) (by kernel_rfl) (by simp) ?_
   refine arc (fun K hK=>?_) AllReadyH.nil
   go_simp
   refine hK.out _ _ ?hSn24 (fun hHeld2=>?hrn24)
   case hSn24=>(try dsimp only);exact HQ.out _ (by first | exact HBF.out | (have h:=HBF.out;simp [World.setCell_alloc_at,World.setCell_alloc_past] at h;exact h))
   clear hK K hHeld
   have hHeld:=hHeld2
   clear hHeld2
   try simp only [Act.put,List.setIfInBounds_toArray,List.set]
   refine wpAnyH_done (by kernel_rfl) ?_ _
   go_wp2_with fail
   go_meet
   case rel=>exact ⟨_,_,rfl,(by first | exact HPV | (have h:=HPV.out;simp [World.setCell_alloc_at,World.setCell_alloc_past] at h;exact h)),(by first | exact HBF | (have h:=HBF.out;simp [World.setCell_alloc_at,World.setCell_alloc_past] at h;exact h)),hbp1⟩
  exact AllReadyH.nil
 case rest =>
  obtain ⟨bp,pv,rfl,HPV,HBC,hbp⟩:=hcut
  have eg:∀ args w,(callFunc 115 args).run Tryz.prog w = .ok (.enter 115 args) w:=enters_of Tryz.func115 (by kernel_rfl) rfl
  go_upto_region 3 with fail
  have HQ:Hid (∀ w',Below w1.heap.size w1 w' → w'.cell? ⟨w.heap.size,0,none⟩ = some (.int .i64 bu) ∧ w'.cell? ⟨w.heap.size,1,none⟩ = some (.slice (some ⟨b,off,none⟩) n c) ∧ Below w1.heap.size w1 w'):=fun w' hb=>⟨cell_bel hb hbox0,cell_bel hb hbox1,hb⟩
  have hbd0:=HBC.out.trans (show Below w1.heap.size wc wc.drew from ⟨rfl,rfl,rfl,Nat.le_refl _,fun _ _=>rfl⟩)
  refine wp_region_held_drew (S:=(fun w'=>w'.cell? ⟨w.heap.size,0,none⟩ = some (.int .i64 bu) ∧ w'.cell? ⟨w.heap.size,1,none⟩ = some (.slice (some ⟨b,off,none⟩) n c) ∧ Below w1.heap.size w1 w')) (by kernel_rfl) ?hS0m (fun hHeld=>?_)
  case hS0m=>(try dsimp only);exact HQ.out _ hbd0
  refine wtk (i:=0) ?_
  try simp only [Act.put,List.setIfInBounds_toArray,List.set]
  refine wtk (i:=1) ?_
  try simp only [Act.put,List.setIfInBounds_toArray,List.set]
  refine wtk (i:=2) ?_
  try simp only [Act.put,List.setIfInBounds_toArray,List.set]
  refine wtk (i:=3) ?_
  try simp only [Act.put,List.setIfInBounds_toArray,List.set]
  refine wtk (i:=4) ?_
  try simp only [Act.put,List.setIfInBounds_toArray,List.set]
  refine wtk (i:=6) ?_
  try simp only [Act.put,List.setIfInBounds_toArray,List.set]
  refine wtk (i:=7) ?_
  try simp only [Act.put,List.setIfInBounds_toArray,List.set]
  refine wtk (i:=8) ?_
  try simp only [Act.put,List.setIfInBounds_toArray,List.set]
  refine wtk (i:=9) ?_
  try simp only [Act.put,List.setIfInBounds_toArray,List.set]
  refine wpAnyH_ready (rs:=[5]) (by kernel_rfl) (by simp) ?_
  refine arc (fun K hK=>?_) AllReadyH.nil
  go_simp
  go_at_call 117
  refine (HMM.out _).mono ?_
  rintro e w5 ⟨rfl,rfl⟩
  refine hK.out _ _ ?hSm10 (fun hHeld2=>?hrm10)
  case hSm10=>(try dsimp only);exact HQ.out _ hbd0
  clear hK K hHeld
  have hHeld:=hHeld2
  clear hHeld2
  try simp only [Act.put,List.setIfInBounds_toArray,List.set]
  refine wpAnyH_ready (rs:=[10]) (by kernel_rfl) (by simp) ?_
  refine arc (fun K hK=>?_) AllReadyH.nil
  go_simp
  go_at_call 118
  refine (HDD.out _ (HB0.out.trans (hbd0.mono HB0.out.size))).mono ?_
  rintro e w8 ⟨rfl,hq8⟩
  have hbd1:=hbd0.trans (hq8.mono hbd0.size)
  have HPV8:=Lib.hid ((HPV.out.keep (T:=fun _=>False) ((Fr.refl _ wc).drew) (fun t=>t) (fun _ _ t=>t)).below hq8)
  clear hq8
  refine hK.out _ _ ?hSm11 (fun hHeld2=>?hrm11)
  case hSm11=>(try dsimp only);exact HQ.out _ hbd1
  clear hK K hHeld
  have hHeld:=hHeld2
  clear hHeld2
  try simp only [Act.put,List.setIfInBounds_toArray,List.set]
  refine wtk (i:=11) ?_
  try simp only [Act.put,List.setIfInBounds_toArray,List.set]
  refine wpAnyH_ready (rs:=[12]) (by kernel_rfl) (by simp) ?_
  refine arc (fun K hK=>?_) AllReadyH.nil
  go_simp
  refine (padd_is w1.heap.size bp [W0,A0] pv M0 BD w8 HPV8.out hbd1.size (by simp) hbd4.1 (by omega) hbD.1 (by omega)).mono ?_
  rintro e w9 ⟨rfl,pv9,hPV9,hfr9⟩
  have hbd2:Below w1.heap.size w1 w9:=hbd1.trans (hfr9.below (fun q _ t=>t.elim (fun t=>by omega) (fun t=>(ownsRow_block HPV8.out.o q t))) hbd1.size)
  have HPV9:=Lib.hid hPV9
  clear hPV9 hfr9
  refine hK.out _ _ ?hSm13 (fun hHeld2=>?hrm13)
  case hSm13=>(try dsimp only);exact HQ.out _ hbd2
  clear hK K hHeld
  have hHeld:=hHeld2
  clear hHeld2
  try simp only [Act.put,List.setIfInBounds_toArray,List.set]
  refine wtk (i:=13) ?_
  try simp only [Act.put,List.setIfInBounds_toArray,List.set]
  refine wpAnyH_done (by kernel_rfl) ?_ _
  have HBD2:=Lib.hid hbd2
  have hb19:=hHeld.2.1
  clear hHeld hbd0 hbd1 hbd2 HPV8 HQ
  go_wp2_with fail
  clear hb19
  go_loopw [46,12,14,15,16] (fun ix s12 s14 s15 s16 wx=>∃ k:Nat,k ≤ n ∧ ix = .int .i64 k ∧ s12 = .bool true ∧ Hid (∃ pv,PV w1.heap.size bp ([W0,A0,M0 * BD] ++ prs tk i t k) pv wx) ∧ Hid (Below w1.heap.size w1 wx)) (fun ix _ _ _ _ _=>n - (intOf ix).toNat)
  case atStart=>exact ⟨0,Nat.zero_le _,rfl,rfl,⟨pv9,by simpa [prs] using HPV9.out⟩,HBD2.out⟩
  case round =>
   obtain ⟨k,hk,rfl,rfl,HPK,HB⟩:=hrel
   by_cases hlt:k < n
   ·have hkI:(k:Int) < (n:Int):=by omega
    have hk0:(0:Int) ≤ (k:Int):=by omega
    have hdl:decide ((k:Int) < (n:Int)) = true:=decide_eq_true hkI
    have hq:=rg_below HB.out (block_lt (HCC.out k hlt 0 _ rfl)) (HCC.out k hlt)
    have hpi0:wr.cell? ⟨b,off + i * 11 + 10,none⟩ = some (.int .i64 (tk i).Prio):=cell_bel HB.out (HCC.out i hi 10 _ rfl)
    have hth:=th_new wr #[.string ⟨#[]⟩,.int .i64 0,.int .i64 0,.int .i64 0,.int .i64 0,.int .i64 0,.int .i64 0,.int .i64 0,.int .i64 0,.int .i64 0,.int .i64 0] 41 wr.heap.size 11 rfl (by simp)
    have hrg:=World.rangeAt_setCells_same _ _ _ (tkc (tk k)) hth
    have hbt:=below_setCells (Nat.le_refl _) (tkc (tk k)) 0 _ (bel_alloc (Below.refl wr.heap.size wr) (.cells #[.string ⟨#[]⟩,.int .i64 0,.int .i64 0,.int .i64 0,.int .i64 0,.int .i64 0,.int .i64 0,.int .i64 0,.int .i64 0,.int .i64 0,.int .i64 0] 41))
    have hszt:wr.heap.size < ((wr.alloc (.cells #[.string ⟨#[]⟩,.int .i64 0,.int .i64 0,.int .i64 0,.int .i64 0,.int .i64 0,.int .i64 0,.int .i64 0,.int .i64 0,.int .i64 0,.int .i64 0] 41)).setCells wr.heap.size 0 (tkc (tk k))).heap.size:=by rw [size_setCells];simp
    have hpi:((wr.alloc (.cells #[.string ⟨#[]⟩,.int .i64 0,.int .i64 0,.int .i64 0,.int .i64 0,.int .i64 0,.int .i64 0,.int .i64 0,.int .i64 0,.int .i64 0,.int .i64 0] 41)).setCells wr.heap.size 0 (tkc (tk k))).cell? ⟨b,off + i * 11 + 10,none⟩ = some (.int .i64 (tk i).Prio):=cell_bel hbt hpi0
    have hb1:((wr.alloc (.cells #[.string ⟨#[]⟩,.int .i64 0,.int .i64 0,.int .i64 0,.int .i64 0,.int .i64 0,.int .i64 0,.int .i64 0,.int .i64 0,.int .i64 0,.int .i64 0] 41)).setCells wr.heap.size 0 (tkc (tk k))).cell? ⟨w.heap.size,1,none⟩ = some (.slice (some ⟨b,off,none⟩) n c):=cell_bel hbt (cell_bel HB.out hbox1)
    have hp1:((wr.alloc (.cells #[.string ⟨#[]⟩,.int .i64 0,.int .i64 0,.int .i64 0,.int .i64 0,.int .i64 0,.int .i64 0,.int .i64 0,.int .i64 0,.int .i64 0,.int .i64 0] 41)).setCells wr.heap.size 0 (tkc (tk k))).cell? ⟨wr.heap.size,1,none⟩ = some (.int .i64 (tk k).T):=hrg 1 _ rfl
    have hp10:((wr.alloc (.cells #[.string ⟨#[]⟩,.int .i64 0,.int .i64 0,.int .i64 0,.int .i64 0,.int .i64 0,.int .i64 0,.int .i64 0,.int .i64 0,.int .i64 0,.int .i64 0] 41)).setCells wr.heap.size 0 (tkc (tk k))).cell? ⟨wr.heap.size,10,none⟩ = some (.int .i64 (tk k).Prio):=hrg 10 _ rfl
    have hp0:((wr.alloc (.cells #[.string ⟨#[]⟩,.int .i64 0,.int .i64 0,.int .i64 0,.int .i64 0,.int .i64 0,.int .i64 0,.int .i64 0,.int .i64 0,.int .i64 0,.int .i64 0] 41)).setCells wr.heap.size 0 (tkc (tk k))).cell? ⟨wr.heap.size,0,none⟩ = some (.string (tk k).nm):=hrg 0 _ rfl
    have hp2:((wr.alloc (.cells #[.string ⟨#[]⟩,.int .i64 0,.int .i64 0,.int .i64 0,.int .i64 0,.int .i64 0,.int .i64 0,.int .i64 0,.int .i64 0,.int .i64 0,.int .i64 0] 41)).setCells wr.heap.size 0 (tkc (tk k))).cell? ⟨wr.heap.size,2,none⟩ = some (.int .i64 (tk k).D):=hrg 2 _ rfl
    have hp3:((wr.alloc (.cells #[.string ⟨#[]⟩,.int .i64 0,.int .i64 0,.int .i64 0,.int .i64 0,.int .i64 0,.int .i64 0,.int .i64 0,.int .i64 0,.int .i64 0,.int .i64 0] 41)).setCells wr.heap.size 0 (tkc (tk k))).cell? ⟨wr.heap.size,3,none⟩ = some (.int .i64 (tk k).C):=hrg 3 _ rfl
    have hp4:((wr.alloc (.cells #[.string ⟨#[]⟩,.int .i64 0,.int .i64 0,.int .i64 0,.int .i64 0,.int .i64 0,.int .i64 0,.int .i64 0,.int .i64 0,.int .i64 0,.int .i64 0] 41)).setCells wr.heap.size 0 (tkc (tk k))).cell? ⟨wr.heap.size,4,none⟩ = some (.int .i64 (tk k).A):=hrg 4 _ rfl
    have hp5:((wr.alloc (.cells #[.string ⟨#[]⟩,.int .i64 0,.int .i64 0,.int .i64 0,.int .i64 0,.int .i64 0,.int .i64 0,.int .i64 0,.int .i64 0,.int .i64 0,.int .i64 0] 41)).setCells wr.heap.size 0 (tkc (tk k))).cell? ⟨wr.heap.size,5,none⟩ = some (.int .i64 (tk k).Seg):=hrg 5 _ rfl
    have hp6:((wr.alloc (.cells #[.string ⟨#[]⟩,.int .i64 0,.int .i64 0,.int .i64 0,.int .i64 0,.int .i64 0,.int .i64 0,.int .i64 0,.int .i64 0,.int .i64 0,.int .i64 0] 41)).setCells wr.heap.size 0 (tkc (tk k))).cell? ⟨wr.heap.size,6,none⟩ = some (.int .i64 (tk k).Cost):=hrg 6 _ rfl
    have hp7:((wr.alloc (.cells #[.string ⟨#[]⟩,.int .i64 0,.int .i64 0,.int .i64 0,.int .i64 0,.int .i64 0,.int .i64 0,.int .i64 0,.int .i64 0,.int .i64 0,.int .i64 0] 41)).setCells wr.heap.size 0 (tkc (tk k))).cell? ⟨wr.heap.size,7,none⟩ = some (.int .i64 (tk k).M):=hrg 7 _ rfl
    have hp8:((wr.alloc (.cells #[.string ⟨#[]⟩,.int .i64 0,.int .i64 0,.int .i64 0,.int .i64 0,.int .i64 0,.int .i64 0,.int .i64 0,.int .i64 0,.int .i64 0,.int .i64 0] 41)).setCells wr.heap.size 0 (tkc (tk k))).cell? ⟨wr.heap.size,8,none⟩ = some (.int .i64 (tk k).K):=hrg 8 _ rfl
    have hp9:((wr.alloc (.cells #[.string ⟨#[]⟩,.int .i64 0,.int .i64 0,.int .i64 0,.int .i64 0,.int .i64 0,.int .i64 0,.int .i64 0,.int .i64 0,.int .i64 0,.int .i64 0] 41)).setCells wr.heap.size 0 (tkc (tk k))).cell? ⟨wr.heap.size,9,none⟩ = some (.int .i64 (tk k).Mode):=hrg 9 _ rfl
    have HBT:=Lib.hid hbt
    have hok:=HOK.out k hlt
    have hTk:1 ≤ (tk k).T ∧ (tk k).T ≤ 1048576:=by have:=hok.c1;have:=hok.cd;have:=hok.dt;have:=hok.tm;omega
    have hcb:=ceil_bd (T:=(tk k).T) ht ht2 hTk.1
    have hwb:=whole_bd hok
    have HE:=Lib.hid (whole_any (tk k) hok)
    have HCE:=Lib.hid (fun W=>ceil_any t (tk k).T W ht hTk.1 (by omega) (by omega))
    have HST1:Hid ((tk k).Prio < (tk i).Prio → prs tk i t (k + 1) = prs tk i t k ++ [ceilI t (tk k).T * wholeT (tk k)]):=fun h=>by show prs tk i t k ++ _ = _;rw [if_pos h]
    have HST2:Hid (¬ (tk k).Prio < (tk i).Prio → prs tk i t (k + 1) = prs tk i t k):=fun h=>by show prs tk i t k ++ _ = _;rw [if_neg h,List.append_nil]
    have HLEN:Hid (([W0,A0,M0 * BD] ++ prs tk i t k).length ≤ 100):=by have:=prs_len tk i t k;show List.length _ ≤ _;simp;omega
    clear hbt hpi0 hok
    go_upto_region 7 with (first | (refine wpList_load_mid rfl 41 _ rfl b (off + k * 11) rfl (tkc (tk k)) _ hq Tryz.underlying41 rfl Tryz.size41 ?_) | (refine wpList_store_mid rfl 41 _ _ rfl wr.heap.size 0 (tkc (tk k)).toArray rfl rfl hth Tryz.size41 (by simp [Value.oneCell',tkc]) ?_;try simp only [List.toList_toArray];generalize ((wr.alloc (.cells #[.string ⟨#[]⟩,.int .i64 0,.int .i64 0,.int .i64 0,.int .i64 0,.int .i64 0,.int .i64 0,.int .i64 0,.int .i64 0,.int .i64 0,.int .i64 0] 41)).setCells wr.heap.size 0 (tkc (tk k))) = wt at hrg hszt hpi hb1 hp0 hp1 hp2 hp3 hp4 hp5 hp6 hp7 hp8 hp9 hp10 HBT ⊢;clear hq hth))
    have hbl2:b < wt.heap.size:=block_lt hpi
    have hwl:w.heap.size < wt.heap.size:=block_lt hb1
    obtain ⟨pvk,HPVk0⟩:=HPK.out
    have HPVk:=Lib.hid (HPVk0.below HBT.out)
    clear HPVk0
    by_cases hc:(tk k).Prio < (tk i).Prio
    ·have d1:decide ((tk k).Prio < (tk i).Prio) = true:=decide_eq_true hc
     have HSTK:=Lib.hid (HST1.out hc)
     clear hc HST1 HST2
     obtain ⟨CC,hCC⟩:∃ CC,ceilI t (tk k).T = CC:=⟨_,rfl⟩
     obtain ⟨WK,hWK⟩:∃ WK,wholeT (tk k) = WK:=⟨_,rfl⟩
     rw [hCC,hWK] at HSTK
     rw [hCC] at HCE hcb
     rw [hWK] at HE hwb
     unfold tkv at HE
     clear hCC hWK
     go_wp2_with fail
     go_quiet (fail)
     go_wp2_with (first | (go_at_call 119;refine (HCE.out _).mono ?_;rintro e w' ⟨rfl,rfl⟩) | (go_at_call 113;refine (HE.out _).mono ?_;rintro e w5 ⟨rfl,hq5⟩;have HPV5:=Lib.hid ((HPVk.out.below (bel_drewN (Below.refl _ _) _)).below hq5);have HB5:=Lib.hid (HB.out.trans ((HBT.out.trans (((bel_drewN (Below.refl wt.heap.size wt) _).mono HBT.out.size).trans (hq5.mono HBT.out.size))).mono HB.out.size));clear hq5))
     refine (padd_is w1.heap.size bp _ pvk CC WK w5 HPV5.out HB5.out.size HLEN.out hcb.1 (by omega) hwb.1 (by omega)).mono ?_
     rintro e w9 ⟨rfl,pv2,hPV2,hfr2⟩
     have HPN:Hid (∃ pv,PV w1.heap.size bp ([W0,A0,M0 * BD] ++ prs tk i t (k + 1)) pv w9):=⟨pv2,by rw [HSTK.out,← List.append_assoc];exact hPV2⟩
     have HBN:Hid (Below w1.heap.size w1 w9):=HB5.out.trans (hfr2.below (fun q _ u=>u.elim (fun u=>by omega) (fun u=>(ownsRow_block HPV5.out.o q u))) HB5.out.size)
     clear hPV2 hfr2
     go_wp2_with fail
     go_roundw
     case rel=>exact ⟨k + 1,by omega,by simp,by simp,HPN,HBN⟩
     case measure=>simp [intOf];omega
    ·have d1:decide ((tk k).Prio < (tk i).Prio) = false:=decide_eq_false hc
     have HSTK:=Lib.hid (HST2.out hc)
     clear hc HST1 HST2
     go_wp2_with fail
     go_quiet (fail)
     go_wp2_with fail
     go_roundw
     case rel=>exact ⟨k + 1,by omega,by simp,by simp,⟨pvk,by rw [HSTK.out];exact HPVk.out.below (bel_drewN (Below.refl _ _) _)⟩,HB.out.trans ((HBT.out.trans ((bel_drewN (Below.refl wt.heap.size wt) _).mono HBT.out.size)).mono HB.out.size)⟩
     case measure=>simp [intOf];omega
   ·have hkn:k = n:=by omega
    subst hkn
    have hdl:decide ((k:Int) < (k:Int)) = false:=decide_eq_false (by omega)
    obtain ⟨pvk,hPVk⟩:=HPK.out
    have hlen0:0 < ([W0,A0,M0 * BD] ++ prs tk i t k).length:=by simp
    obtain ⟨ga,ca,hpv⟩:=own_some hPVk.o hlen0
    subst hpv
    have hcp:=hPVk.c
    have HSM:=Lib.hid (sum_any wr.heap.size (some ⟨ga,0,none⟩) _ ca ([W0,A0,M0 * BD] ++ prs tk i t k) wr ⟨rfl,fun _=>⟨ga,0,rfl,(hPVk.o.lt ga rfl).2,fun j hj=>by
     have:=hPVk.o.cells (g:=ga) rfl j (.int .i64 ([W0,A0,M0 * BD] ++ prs tk i t k)[j]) (by unfold intsV;rw [List.getElem?_map,List.getElem?_eq_getElem hj];rfl)
     rw [add_none] at this
     exact this⟩⟩ (by have:=prs_len tk i t k;simp;omega) (fun x hx=>by
     rw [List.mem_append] at hx
     rcases hx with hx | hx
     ·simp at hx
      have hm1:0 ≤ M0 * BD:=Int.mul_nonneg hbd4.1 hbD.1
      have hm2:M0 * BD ≤ 1049576 * 1049576000:=Int.mul_le_mul hbd4.2 hbD.2 hbD.1 (by omega)
      rcases hx with rfl | rfl | rfl <;> omega
     ·exact prs_bd HOK.out i ht ht2 k (by omega) x hx))
    rw [HEND.out _ rfl] at HSM
    generalize ([W0,A0,M0 * BD] ++ prs tk i t k).length = ln at hcp HSM
    clear hPVk hlen0
    go_wp2_with (go_at_call 120;refine HSM.out.mono ?_;rintro e w6 ⟨rfl,rfl⟩)
    go_ret2
    exact ⟨rfl,HB0.out.trans (HB.out.mono HB0.out.size)⟩
end
end Go.Proofs.YtnoahekcemfmcaaGreatDoor
