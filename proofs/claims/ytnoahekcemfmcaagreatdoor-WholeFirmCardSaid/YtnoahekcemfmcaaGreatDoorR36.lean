/- A part of the walk: Vg Vh Vi. -/
import Derived.Test.YtnoahekcemfmcaaGreatDoorR35
import Derived.Laws.EntriesVeiled
namespace Go.Proofs.YtnoahekcemfmcaaGreatDoor
set_option linter.unusedVariables false
set_option linter.unusedSimpArgs false
set_option maxHeartbeats 80000000
set_option maxRecDepth 100000
section
open Go.RowKit
theorem Tryz.size30:(Tryz.prog.info? 30).map (·.size) = some 3:=by kernel_rfl
def judgeS (tk:Nat → Tk) (n:Nat) (bu g:Int):Bool:=(List.range n).all fun i=>(respS tk n bu i g).2
theorem row_zero {w:World} {B b n:Nat} (h:w.ownsRow B 3 1 (.slice (some ⟨b,0,none⟩) n n) n (madeCells (Value.cells (.int .i64 0)) (n * 1)).toList):(∀ j,j < n → w.cell? ⟨b,j,none⟩ = some (.int .i64 0)) ∧ ∀ o,w.frozen? ⟨b,o,none⟩ = false:=by
 refine ⟨fun j hj=>?_,fun o=>?_⟩
 ·have:=h.cells (g:=b) rfl j (.int .i64 0) (by rw [show (Value.int .i64 0).cells = #[.int .i64 0] from rfl,Nat.mul_one,toList_madeCells_one,List.getElem?_replicate,if_pos hj])
  rw [add_none,Nat.zero_add] at this
  exact this
 ·rcases h.2 with ⟨hv,_⟩ | ⟨g,cap,cur,hv,_,hg,_⟩
  ·cases hv
  ·cases hv
   unfold World.frozen?
   rw [hg]
   simp
theorem judge_any (B:Nat) (bu:Int) (a:Option Addr) (n c:Nat) (tk:Nat → Tk) (g:Int) (w:World) (hS:SetOk bu n tk) (hx:TksIn B w a n tk) (hB:B ≤ w.heap.size) (hnc:n ≤ c) (hg:1 ≤ g) (hg2:g ≤ 1049576) :
  Calls Tryz.prog 21 #[.agg #[.int .i64 bu,.slice a n c],.int .i64 g] w fun e w'=>∃ late rb,e = .returned (.tuple #[.agg #[.bool (judgeS tk n bu g),.int .i64 late,.slice (some ⟨rb,0,none⟩) n n],.int .i64 0]) ∧ Below w.heap.size w w' ∧ w.heap.size ≤ rb ∧
   (judgeS tk n bu g = true → ∀ i,i < n → w'.cell? ⟨rb,i,none⟩ = some (.int .i64 (respS tk n bu i g).1)):=by
 have hb0:=bel_alloc (Below.refl w.heap.size w) (.cells #[.int .i64 bu,.slice a n c] 24)
 have hbox0:=cell_newb w #[.int .i64 bu,.slice a n c] 24 _ 0 _ rfl rfl
 have hbox1:=cell_newb w #[.int .i64 bu,.slice a n c] 24 _ 1 _ rfl rfl
 have hsz:=one_lt w (.cells #[.int .i64 bu,.slice a n c] 24)
 have HB0:=Lib.hid hb0
 have hn16:=hS.n2
 have hn0:=hS.n1
 have HR:Hid (∀ W,Below w.heap.size w W → Calls Tryz.prog 28 #[.agg #[.int .i64 bu,.slice a n c]] W fun e w'=>e = .returned (.bool true) ∧ Below W.heap.size W w'):=fun W hW=>right_ok B bu a n c tk W hS (hx.keep (hW.mono hB)) (by have:=hW.size;omega) hnc
 have HO:Hid (∀ W,Below w.heap.size w W → Calls Tryz.prog 47 #[.agg #[.int .i64 bu,.slice a n c]] W fun e w'=>∃ (b cp:Nat) (l:List Nat),e = .returned (.slice (some ⟨b,0,none⟩) n cp) ∧ l.Perm (List.range n) ∧ w'.ownsRow W.heap.size 3 1 (.slice (some ⟨b,0,none⟩) n cp) n (l.map fun k=>.int .i64 (k:Nat)) ∧ Below W.heap.size W w'):=fun W hW=>order_any B bu a n c tk W hS (hx.keep (hW.mono hB)) (by have:=hW.size;omega)
 have HRS:Hid (∀ W,Below w.heap.size w W → ∀ i,i < n → Calls Tryz.prog 48 #[.agg #[.int .i64 bu,.slice a n c],.int .i64 i,.int .i64 g] W fun e w'=>e = .returned (.tuple #[.int .i64 (respS tk n bu i g).1,.bool (respS tk n bu i g).2]) ∧ Below W.heap.size W w'):=fun W hW i hi=>resp_any B bu a n c tk i g W hS (hx.keep (hW.mono hB)) (by have:=hW.size;omega) hi hg hg2
 have hnI:(n:Int) ≤ 16:=by omega
 have d1:decide (g < 1) = false:=decide_eq_false (by omega)
 have d2:decide (1049576 < g) = false:=decide_eq_false (by omega)
 obtain ⟨i3,ki3,kz31,kz32,kz33⟩:=info_parts Tryz.info3
 clear hx hS hb0
 have hb01:=bel_alloc (Below.refl (w.alloc (.cells #[.int .i64 bu,.slice a n c] 24)).heap.size (w.alloc (.cells #[.int .i64 bu,.slice a n c] 24))) (.cells #[.bool false,.int .i64 0,.slice none 0 0] 30)
 have HB1:=Lib.hid (HB0.out.trans (hb01.mono HB0.out.size))
 have hx0:=Lib.hid (cell_bel hb01 hbox0)
 have hx1:=Lib.hid (cell_bel hb01 hbox1)
 have hy0:Hid (((w.alloc (.cells #[.int .i64 bu,.slice a n c] 24)).alloc (.cells #[.bool false,.int .i64 0,.slice none 0 0] 30)).cell? ⟨w.heap.size + 1,0,none⟩ = some (.bool false)):=cell_newb _ _ _ _ 0 _ (by simp) rfl
 have hy1:Hid (((w.alloc (.cells #[.int .i64 bu,.slice a n c] 24)).alloc (.cells #[.bool false,.int .i64 0,.slice none 0 0] 30)).cell? ⟨w.heap.size + 1,1,none⟩ = some (.int .i64 0)):=cell_newb _ _ _ _ 1 _ (by simp) rfl
 have hy2:Hid (((w.alloc (.cells #[.int .i64 bu,.slice a n c] 24)).alloc (.cells #[.bool false,.int .i64 0,.slice none 0 0] 30)).cell? ⟨w.heap.size + 1,2,none⟩ = some (.slice none 0 0)):=cell_newb _ _ _ _ 2 _ (by simp) rfl
 have hyt:Hid (((w.alloc (.cells #[.int .i64 bu,.slice a n c] 24)).alloc (.cells #[.bool false,.int .i64 0,.slice none 0 0] 30)).there (w.heap.size + 1) 0 3):=th_new _ _ _ _ 3 (by simp) (by simp)
 have hs01:w.heap.size + 1 < ((w.alloc (.cells #[.int .i64 bu,.slice a n c] 24)).alloc (.cells #[.bool false,.int .i64 0,.slice none 0 0] 30)).heap.size:=by simp
 clear hb01
 go_enter Tryz.func21,Tryz.ntmps21
 go_wp2_with (first | (go_at_call 28;refine (HR.out _ HB1.out).mono ?_;rintro e w2 ⟨rfl,hq2⟩;have HB2:=Lib.hid (HB1.out.trans (hq2.mono HB1.out.size));have x20:=cell_bel hq2 hx0.out;have x21:=cell_bel hq2 hx1.out;have HY:=Lib.hid (And.intro (cell_bel hq2 hy0.out) (And.intro (cell_bel hq2 hy1.out) (And.intro (cell_bel hq2 hy2.out) (th_below hq2 (by simp) hyt.out))));have hs2:w.heap.size + 1 < w2.heap.size:=Nat.lt_of_lt_of_le hs01 hq2.size;clear hq2 hx0 hx1 hy0 hy1 hy2 hyt hs01 hbox0 hbox1 hsz) | (refine wpList_make_full _ rfl _ _ 28 rfl w.heap.size 3 i3 (.int .i64 0) 1 Tryz.underlying28 ki3 kz31 kz32 .i64 .i64 _ _ n rfl rfl rfl rfl (by rw [kz33];omega) (by unfold maxLen;omega) (by omega) ?_;intro w3 hown3 hgr3;have hq3:Below w2.heap.size w2 w3:=Below.grown (Below.refl _ _) hgr3 (Nat.le_refl _) (fun k e=>by cases e);have HO3:=Lib.hid hown3;have HB3:=Lib.hid (HB2.out.trans (hq3.mono HB2.out.size));have x30:=cell_bel hq3 x20;have x31:=cell_bel hq3 x21;have HY3:=Lib.hid (And.intro (cell_bel hq3 HY.out.1) (And.intro (cell_bel hq3 HY.out.2.1) (And.intro (cell_bel hq3 HY.out.2.2.1) (th_below hq3 (by omega) HY.out.2.2.2))));have hs3:w2.heap.size < w3.heap.size:=(HO3.out.lt _ rfl).2;have hw3:w.heap.size < w3.heap.size:=(by omega);clear hown3 hgr3 hq3 x20 x21 HY HR) | (go_at_call 47;refine (HO.out _ (HB3.out.trans ((bel_alloc (Below.refl w3.heap.size w3) (.cells #[.bool true,.int .i64 (-1),.slice (some ⟨w2.heap.size,0,none⟩) n n] 30)).mono HB3.out.size))).mono ?_;rintro e w5 ⟨bo,co,lo,rfl,hperm,hown5,hq5⟩;have HPM:=Lib.hid hperm;have HO5:=Lib.hid hown5;have HQ5:=Lib.hid hq5;clear hperm hown5 hq5 HO))
 have hbv:=bel_alloc (Below.refl w3.heap.size w3) (.cells #[.bool true,.int .i64 (-1),.slice (some ⟨w2.heap.size,0,none⟩) n n] 30)
 have HB5:=Lib.hid ((HB3.out.trans (hbv.mono HB3.out.size)).trans (HQ5.out.mono (Nat.le_trans HB3.out.size hbv.size)))
 have hb35:=Lib.hid (hbv.trans (HQ5.out.mono hbv.size))
 obtain ⟨bv,hbve⟩:∃ bv,bv = w3.heap.size:=⟨_,rfl⟩
 obtain ⟨rb,hrbe⟩:∃ rb,rb = w2.heap.size:=⟨_,rfl⟩
 have HV:Hid (w5.cell? ⟨bv,0,none⟩ = some (.bool true) ∧ w5.cell? ⟨bv,1,none⟩ = some (.int .i64 (-1)) ∧ w5.cell? ⟨bv,2,none⟩ = some (.slice (some ⟨rb,0,none⟩) n n) ∧ (∀ o,w5.frozen? ⟨bv,o,none⟩ = false)):=by
  rw [hbve,hrbe]
  exact ⟨cell_bel HQ5.out (cell_newb _ _ _ _ 0 _ rfl rfl),cell_bel HQ5.out (cell_newb _ _ _ _ 1 _ rfl rfl),cell_bel HQ5.out (cell_newb _ _ _ _ 2 _ rfl rfl),fun o=>((Fr.of_below (S:=fun _=>False) HQ5.out).frozen (p:=⟨w3.heap.size,o,none⟩) (one_lt _ _) (fun t=>t)).trans (by { unfold World.frozen?;rw [map_at];simp })⟩
 have HRW:Hid ((∀ j,j < n → w5.cell? ⟨rb,j,none⟩ = some (.int .i64 0)) ∧ ∀ o,w5.frozen? ⟨rb,o,none⟩ = false):=by
  rw [hrbe]
  have hz:=row_zero HO3.out
  refine ⟨fun j hj=>cell_bel hb35.out (hz.1 j hj),fun o=>((Fr.of_below (S:=fun _=>False) hb35.out).frozen (p:=⟨w2.heap.size,o,none⟩) hs3 (fun t=>t)).trans (hz.2 o)⟩
 have HY5:=Lib.hid (And.intro (cell_bel hb35.out HY3.out.1) (And.intro (cell_bel hb35.out HY3.out.2.1) (And.intro (cell_bel hb35.out HY3.out.2.2.1) (th_below hb35.out (by omega) HY3.out.2.2.2))))
 have x50:=Lib.hid (cell_bel hb35.out x30)
 have x51:=Lib.hid (cell_bel hb35.out x31)
 have hord:w.heap.size + 1 < rb ∧ rb < bv ∧ bv < bo ∧ bo < w5.heap.size:=⟨by omega,by omega,by have:=ownsRow_block HO5.out bo rfl;have h1:=one_lt w3 (.cells #[.bool true,.int .i64 (-1),.slice (some ⟨w2.heap.size,0,none⟩) n n] 30);omega,(HO5.out.lt bo rfl).2⟩
 rw [← hbve,← hrbe]
 clear hbv hbve hrbe hs2 hs3 hw3 HB3 HO3 x30 x31 HY3 hb35 HQ5
 have hll:lo.length = n:=by have:=HPM.out.length_eq;simpa using this
 have hmem:Hid (∀ j (h:j < lo.length),lo[j] < n):=fun j h=>by have:=(HPM.out.mem_iff (a:=lo[j])).1 (List.getElem_mem h);simpa using this
 have hnd:Hid (lo.Nodup):=HPM.out.nodup_iff.2 List.nodup_range
 have HLO:Hid (∀ j (h:j < lo.length),w5.cell? ⟨bo,j,none⟩ = some (.int .i64 (lo[j]:Nat))):=fun j h=>by
  have:=HO5.out.cells (g:=bo) rfl j (.int .i64 (lo[j]:Nat)) (by rw [List.getElem?_map,List.getElem?_eq_getElem h];rfl)
  rw [add_none,Nat.zero_add] at this
  exact this
 have HALL:Hid ((∀ j (h:j < lo.length),(respS tk n bu lo[j] g).2 = true) → judgeS tk n bu g = true):=fun h=>by
  unfold judgeS
  rw [List.all_eq_true]
  intro x hx
  obtain ⟨j,hj,e⟩:=List.getElem_of_mem ((HPM.out.mem_iff (a:=x)).2 hx)
  rw [← e];exact h j hj
 have HNONE:Hid (∀ x,x < n → (respS tk n bu x g).2 = false → judgeS tk n bu g = false):=fun x hx h=>by
  unfold judgeS
  rw [List.all_eq_false]
  exact ⟨x,List.mem_range.2 hx,by rw [h];simp⟩
 have HCOV:Hid (∀ x,x < n → ∃ j,∃ h:j < lo.length,lo[j] = x):=fun x hx=>by
  obtain ⟨j,hj,e⟩:=List.getElem_of_mem ((HPM.out.mem_iff (a:=x)).2 (List.mem_range.2 hx))
  exact ⟨j,hj,e⟩
 obtain ⟨ho1,ho2,ho3,ho4⟩:=hord
 clear HPM HO5 i3 ki3 kz31 kz32 kz33
 go_loopw [31,8,9,10] (fun ix s8 s9 s10 wx=>∃ k:Nat,k ≤ n ∧ ix = .int .i64 k ∧ Hid (∃ R:Nat → Int,(∀ j (h:j < lo.length),j < k → (respS tk n bu lo[j] g).2 = true ∧ R lo[j] = (respS tk n bu lo[j] g).1) ∧ (∀ j,j < n → wx.cell? ⟨rb,j,none⟩ = some (.int .i64 (R j))) ∧ Fr (fun q=>q = rb) w5 wx ∧ ∀ o,wx.frozen? ⟨rb,o,none⟩ = false)) (fun ix _ _ _ _=>n - (intOf ix).toNat)
 case atStart=>exact ⟨0,Nat.zero_le _,rfl,fun _=>0,fun j h hj=>by omega,HRW.out.1,Fr.refl _ _,HRW.out.2⟩
 case round =>
  obtain ⟨k,hk,rfl,HRk⟩:=hrel
  obtain ⟨R,r1,r2,r3,r4⟩:=HRk.out
  have HR1:=Lib.hid r1
  have HR2:=Lib.hid r2
  have HR3:=Lib.hid r3
  have hl5:=r3.size
  have cel:∀ {b o:Nat} {v:Value},b ≠ rb → w5.cell? ⟨b,o,none⟩ = some v → wr.cell? ⟨b,o,none⟩ = some v:=fun {b o v} hne h=>(r3.cell (p:=⟨b,o,none⟩) (block_lt h) hne).trans h
  have q0:=cel (by omega) x50.out
  have q1:=cel (by omega) x51.out
  have v0:=cel (by omega) HV.out.1
  have v1:=cel (by omega) HV.out.2.1
  have v2:=cel (by omega) HV.out.2.2.1
  have vz0:=(r3.frozen (p:=⟨bv,0,none⟩) (by show bv < _;omega) (by show ¬ bv = rb;omega)).trans (HV.out.2.2.2 0)
  have vz1:=(r3.frozen (p:=⟨bv,1,none⟩) (by show bv < _;omega) (by show ¬ bv = rb;omega)).trans (HV.out.2.2.2 1)
  have hthr:=Lib.hid (th_fr HY5.out.2.2.2 r3 (by omega) (by show ¬ w.heap.size + 1 = rb;omega))
  have HBr:=Lib.hid (HB5.out.trans (r3.below (fun q _ t=>by show w.heap.size ≤ q;rw [t];omega) HB5.out.size))
  by_cases hlt:k < n
  ·have hkI:(k:Int) < (n:Int):=by omega
   have hk0:(0:Int) ≤ (k:Int):=by omega
   have hdl:decide ((k:Int) < (n:Int)) = true:=decide_eq_true hkI
   have hcl:=cel (by omega) (HLO.out k (by omega))
   have hin:=hmem.out k (by omega)
   have hne0:∀ j (h:j < lo.length),j < k → lo[j] ≠ lo[k]:=fun j h hj=>(List.pairwise_iff_getElem.1 hnd.out) j k h (by omega) hj
   obtain ⟨x,hxl⟩:∃ x,lo[k] = x:=⟨_,rfl⟩
   rw [hxl] at hcl hin
   have HND:Hid (∀ j (h:j < lo.length),j < k → lo[j] ≠ x):=fun j h hj=>by rw [← hxl];exact hne0 j h hj
   clear hne0
   have HXL:=Lib.hid hxl
   have HC:=Lib.hid (HRS.out wr HBr.out x hin)
   obtain ⟨r,ok,hro⟩:∃ r ok,respS tk n bu x g = (r,ok):=⟨_,_,rfl⟩
   rw [hro] at HC
   have HRO:=Lib.hid hro
   have hxI:(x:Int) < (n:Int):=by omega
   have hx0:(0:Int) ≤ (x:Int):=by omega
   have hcr:=r2 x hin
   have hrz:=r4
   clear r1 r2 r3 r4 hxl hro cel
   cases ok
   ·have HJF:=Lib.hid (HNONE.out x hin (by rw [HRO.out]))
    clear HALL HNONE
    go_wp2_with (first | (go_at_call 48;refine HC.out.mono ?_;rintro e w6 ⟨rfl,hq6⟩;have v06:=cell_bel hq6 v0;have v16:=cell_bel hq6 v1;have v26:=cell_bel hq6 v2;have hcr6:=cell_bel hq6 hcr;have frz:∀ {b o:Nat},b < wr.heap.size → wr.frozen? ⟨b,o,none⟩ = false → w6.frozen? ⟨b,o,none⟩ = false:=fun {b o} hb h=>((Fr.of_below (S:=fun _=>False) hq6).frozen (p:=⟨b,o,none⟩) hb (fun t=>t)).trans h;have vz06:=frz (block_lt v0) vz0;have vz16:=frz (block_lt v0) vz1;have hrz6:=frz (block_lt hcr) (hrz x);have hbv6:bv < w6.heap.size:=block_lt v06;have hrb6:rb < w6.heap.size:=block_lt hcr6;have HQ6:=Lib.hid hq6;clear hq6 frz q0 q1 v0 v1 v2 vz0 vz1 hcr hcl HC) | (refine wpList_store_mid rfl 30 _ _ rfl (w.heap.size + 1) 0 _ rfl rfl (th_fr (th_below HQ6.out (by omega) hthr.out) (Fr.setCell (Fr.setCell (Fr.refl (fun q=>q = bv) w6) (p:=⟨bv,0,none⟩) rfl (.bool false)) (p:=⟨bv,1,none⟩) rfl (.int .i64 x)) (by omega) (by show ¬ w.heap.size + 1 = bv;omega)) Tryz.size30 (by simp [Value.oneCell']) ?_))
    have hle6:=HQ6.out.size
    have HBE:=Lib.hid ((HBr.out.trans (HQ6.out.mono HBr.out.size)).trans ((Fr.setCell (Fr.setCell (Fr.refl (fun q=>q = bv) w6) (p:=⟨bv,0,none⟩) rfl (.bool false)) (p:=⟨bv,1,none⟩) rfl (.int .i64 x)).below (fun q _ u=>by show w.heap.size ≤ q;rw [u];omega) (by omega)))
    refine bodyPost_ret (res_cell_tmp (by rfl) _ _ (w.heap.size + 1) _ _ rfl (World.rangeAt_setCells_same _ _ _ _ (th_fr (th_below HQ6.out (by omega) hthr.out) (Fr.setCell (Fr.setCell (Fr.refl (fun q=>q = bv) w6) (p:=⟨bv,0,none⟩) rfl (.bool false)) (p:=⟨bv,1,none⟩) rfl (.int .i64 x)) (by omega) (by show ¬ w.heap.size + 1 = bv;omega))) Tryz.underlying30 rfl Tryz.size30) rfl ⟨x,rb,by rw [HJF.out];rfl,below_setCells (by omega) _ _ _ HBE.out,by omega,fun u=>by rw [HJF.out] at u;cases u⟩
   ·clear HALL HNONE
    go_wp2_with (go_at_call 48;refine HC.out.mono ?_;rintro e w6 ⟨rfl,hq6⟩;have v06:=cell_bel hq6 v0;have v16:=cell_bel hq6 v1;have v26:=cell_bel hq6 v2;have hcr6:=cell_bel hq6 hcr;have frz:∀ {b o:Nat},b < wr.heap.size → wr.frozen? ⟨b,o,none⟩ = false → w6.frozen? ⟨b,o,none⟩ = false:=fun {b o} hb h=>((Fr.of_below (S:=fun _=>False) hq6).frozen (p:=⟨b,o,none⟩) hb (fun t=>t)).trans h;have vz06:=frz (block_lt v0) vz0;have vz16:=frz (block_lt v0) vz1;have hrz6:=frz (block_lt hcr) (hrz x);have hbv6:bv < w6.heap.size:=block_lt v06;have hrb6:rb < w6.heap.size:=block_lt hcr6;have HQ6:=Lib.hid hq6;clear hq6 frz q0 q1 v0 v1 v2 vz0 vz1 hcr hcl HC)
    have hfx:Fr (fun q=>q = rb) w6 (w6.setCell ⟨rb,x,none⟩ (.int .i64 r)):=(Fr.refl (fun q=>q = rb) w6).setCell (p:=⟨rb,x,none⟩) rfl _
    have HNX:Hid (∃ R:Nat → Int,(∀ j (h:j < lo.length),j < k + 1 → (respS tk n bu lo[j] g).2 = true ∧ R lo[j] = (respS tk n bu lo[j] g).1) ∧ (∀ j,j < n → (w6.setCell ⟨rb,x,none⟩ (.int .i64 r)).cell? ⟨rb,j,none⟩ = some (.int .i64 (R j))) ∧ Fr (fun q=>q = rb) w5 (w6.setCell ⟨rb,x,none⟩ (.int .i64 r)) ∧ ∀ o,(w6.setCell ⟨rb,x,none⟩ (.int .i64 r)).frozen? ⟨rb,o,none⟩ = false):=by
     refine ⟨fun j=>if j = x then r else R j,fun j h hj=>?_,fun j hj=>?_,(fr_then HR3.out HQ6.out).trans hfx (fun _ _ t=>t) (fun _ _ t=>t),fun o=>?_⟩
     ·dsimp only
      by_cases e:j = k
      ·subst e
       rw [HXL.out,HRO.out,if_pos rfl]
       exact ⟨rfl,rfl⟩
      ·have hjk:j < k:=by omega
       rw [if_neg (HND.out j h hjk)]
       exact HR1.out j h hjk
     ·dsimp only
      by_cases e:j = x
      ·subst e
       rw [if_pos rfl]
       exact World.cell?_setCell_same _ _ _ hcr6
      ·rw [if_neg e,World.cell?_setCell_other _ _ _ _ (addr_ne (Ne.symm e))]
       exact cell_bel HQ6.out (HR2.out j hj)
     ·rw [World.frozen?_setCell]
      exact ((Fr.of_below (S:=fun _=>False) HQ6.out).frozen (p:=⟨rb,o,none⟩) (by show rb < _;omega) (fun t=>t)).trans (hrz o)
    clear hfx
    go_roundw
    case rel=>exact ⟨k + 1,by omega,by simp,HNX⟩
    case measure=>simp [intOf];omega
  ·have hkn:k = n:=by omega
   subst hkn
   have hdl:decide ((k:Int) < (k:Int)) = false:=decide_eq_false (by omega)
   have HJT:=Lib.hid (HALL.out fun j h=>(HR1.out j h (by omega)).1)
   clear HALL HNONE r1 r2 r3 r4 cel HRS hnd
   have HCV:=Lib.hid (fun i hi=>HR2.out i hi)
   go_wp2_with (refine wpList_store_mid rfl 30 _ _ rfl (w.heap.size + 1) 0 _ rfl rfl hthr.out Tryz.size30 (by simp [Value.oneCell']) ?_)
   refine bodyPost_ret (res_cell_tmp (by rfl) _ _ (w.heap.size + 1) _ _ rfl (World.rangeAt_setCells_same _ _ _ _ hthr.out) Tryz.underlying30 rfl Tryz.size30) rfl ⟨-1,rb,by rw [HJT.out];rfl,below_setCells (by omega) _ _ _ HBr.out,by omega,fun _ i hi=>?_⟩
   obtain ⟨j,hj,e⟩:=HCOV.out i hi
   have h1:=(HR1.out j hj (by omega)).2
   rw [e] at h1
   rw [← h1]
   exact ((fr_setCells (S:=fun q=>q = w.heap.size + 1) rfl _ _ _ (Fr.refl _ wr)).cell (p:=⟨rb,i,none⟩) (by show rb < _;omega) (by show ¬ rb = w.heap.size + 1;omega)).trans (HR2.out i hi)
end
section
open Go.RowKit
def searchF (f:Nat → Bool):Nat → Nat → Nat → Nat
 | 0,i,_=>i
 | k + 1,i,j=>if i < j then (if f ((i + j) / 2) = true then searchF f k i ((i + j) / 2) else searchF f k ((i + j) / 2 + 1) j) else i
theorem searchF_law (f:Nat → Bool) (n:Nat):∀ k i j,i ≤ j → j ≤ n → j - i < 2 ^ k → (j < n → f j = true) → (0 < i → f (i - 1) = false) →
  searchF f k i j ≤ n ∧ (searchF f k i j < n → f (searchF f k i j) = true) ∧ (0 < searchF f k i j → f (searchF f k i j - 1) = false):=by
 intro k
 induction k with
 | zero =>
  intro i j hij hj hk h1 h2
  have:i = j:=by simp at hk;omega
  subst this
  exact ⟨hj,h1,h2⟩
 | succ k ih =>
  intro i j hij hj hk h1 h2
  unfold searchF
  by_cases c:i < j
  ·rw [if_pos c]
   have hp:2 ^ (k + 1) = 2 ^ k * 2:=Nat.pow_succ 2 k
   by_cases c2:f ((i + j) / 2) = true
   ·rw [if_pos c2]
    exact ih i _ (by omega) (by omega) (by omega) (fun _=>c2) h2
   ·rw [if_neg c2]
    exact ih _ j (by omega) hj (by omega) h1 (fun _=>by simpa using c2)
  ·rw [if_neg c]
   have:i = j:=by omega
   subst this
   exact ⟨hj,h1,h2⟩
theorem search_any (n:Nat) (f:Nat → Bool) (g:Nat) (lb:Array Value) (K:Nat) (w:World) (eg:∀ args w,(callFunc g args).run Tryz.prog w = .ok (.enter g args) w) (hn:n ≤ 1048576 * 2) (hK:n < 2 ^ K)
  (hf:∀ W,Below w.heap.size w W → ∀ h,h < n → Calls Tryz.prog g (#[.int .i64 (h:Nat)] ++ lb) W fun e w'=>e = .returned (.bool (f h)) ∧ Below W.heap.size W w') :
  Calls Tryz.prog 30 #[.int .i64 (n:Nat),.func (.func g) #[] lb] w fun e w'=>e = .returned (.int .i64 (searchF f K 0 n:Nat)) ∧ Below w.heap.size w w':=by
 have HF:=Lib.hid hf
 have hnI:(n:Int) ≤ 2097152:=by omega
 clear hf
 go_enter Tryz.func30,Tryz.ntmps30
 go_wp2_with fail
 go_loopw [5,6,7] (fun s5 s6 s7 wx=>∃ (i j k:Nat),s5 = .int .i64 i ∧ s6 = .int .i64 j ∧ i ≤ j ∧ j ≤ n ∧ Hid (j - i < 2 ^ k) ∧ Hid (searchF f K 0 n = searchF f k i j) ∧ Hid (Below w.heap.size w wx)) (fun s5 s6 _ _=>(intOf s6 - intOf s5).toNat)
 case atStart=>exact ⟨0,n,K,rfl,rfl,Nat.zero_le _,Nat.le_refl _,by show _ < _;omega,rfl,Below.refl _ _⟩
 case round =>
  obtain ⟨i,j,k,rfl,rfl,hij,hjn,HK,HE,HB⟩:=hrel
  by_cases hlt:i < j
  ·have hlI:(i:Int) < (j:Int):=by omega
   have hdl:decide ((i:Int) < (j:Int)) = true:=decide_eq_true hlI
   have hi0:(0:Int) ≤ (i:Int):=by omega
   have hj2:(j:Int) ≤ 2097152:=by omega
   obtain ⟨k',rfl⟩:∃ k',k = k' + 1:=⟨k - 1,by
    have:=HK.out
    cases k with
    | zero=>simp at this;omega
    | succ k=>rfl⟩
   obtain ⟨m,hm⟩:∃ m,(i + j) / 2 = m:=⟨_,rfl⟩
   have HS:Hid (searchF f (k' + 1) i j = if f m = true then searchF f k' i m else searchF f k' (m + 1) j):=by
    show _ = _
    rw [← hm]
    show (if i < j then _ else _) = _
    rw [if_pos hlt]
   have hkk:=HK.out
   have hp:2 ^ (k' + 1) = 2 ^ k' * 2:=Nat.pow_succ 2 k'
   have HK1:Hid (m - i < 2 ^ k'):=by show _ < _;omega
   have HK2:Hid (j - (m + 1) < 2 ^ k'):=by show _ < _;omega
   have hmI:((i:Int) + (j:Int)) / 2 = (m:Int):=by omega
   have hm1:i ≤ m:=by omega
   have hm2:m < j:=by omega
   have HC:=Lib.hid (HF.out wr HB.out m (by omega))
   clear hm hkk hp HK
   cases hfm:f m
   ·rw [hfm] at HC
    have HS2:Hid (searchF f (k' + 1) i j = searchF f k' (m + 1) j):=by
     show _ = _
     rw [HS.out,hfm];rfl
    clear HS hfm
    go_wp2_with fail
    refine HC.out.mono ?_
    rintro e w5 ⟨rfl,hq5⟩
    have HB5:=Lib.hid (HB.out.trans (hq5.mono HB.out.size))
    clear hq5 HC
    go_wp2_with fail
    go_roundw
    case rel=>exact ⟨m + 1,j,k',by simp,rfl,by omega,hjn,HK2,by show _ = _;rw [HE.out,HS2.out],HB5⟩
    case measure=>simp [intOf];omega
   ·rw [hfm] at HC
    have HS2:Hid (searchF f (k' + 1) i j = searchF f k' i m):=by
     show _ = _
     rw [HS.out,hfm];rfl
    clear HS hfm
    go_wp2_with fail
    refine HC.out.mono ?_
    rintro e w5 ⟨rfl,hq5⟩
    have HB5:=Lib.hid (HB.out.trans (hq5.mono HB.out.size))
    clear hq5 HC
    go_wp2_with fail
    go_roundw
    case rel=>exact ⟨i,m,k',rfl,rfl,by omega,by omega,HK1,by show _ = _;rw [HE.out,HS2.out],HB5⟩
    case measure=>simp [intOf];omega
  ·have hij':i = j:=by omega
   subst hij'
   have hdl:decide ((i:Int) < (i:Int)) = false:=decide_eq_false (by omega)
   have HR:Hid (searchF f k i i = i):=by
    show _ = _
    cases k with
    | zero=>rfl
    | succ k=>show (if i < i then _ else _) = _;rw [if_neg (by omega)]
   go_wp2_with fail
   go_ret
   exact ⟨by rw [HE.out,HR.out];rfl,HB.out⟩
end
section
open Go.RowKit
def maxGap:Nat:=1049576
def accS (tk:Nat → Tk) (n:Nat) (bu:Int) (h:Nat):Bool:=judgeS tk n bu ((h:Int) + 1)
theorem acc1_any (B:Nat) (bu:Int) (a:Option Addr) (n c:Nat) (tk:Nat → Tk) (g:Int) (bs:Nat) (w:World) (hS:SetOk bu n tk) (hx:TksIn B w a n tk) (hB:B ≤ w.heap.size) (hnc:n ≤ c) (hg:1 ≤ g) (hg2:g ≤ 1049576)
  (h0:w.cell? ⟨bs,0,none⟩ = some (.int .i64 bu)) (h1:w.cell? ⟨bs,1,none⟩ = some (.slice a n c)) :
  Calls Tryz.prog 29 #[.int .i64 g,.pointer (some ⟨bs,0,none⟩)] w fun e w'=>e = .returned (.bool (judgeS tk n bu g)) ∧ Below w.heap.size w w':=by
 have HJ:=Lib.hid (judge_any B bu a n c tk g w hS hx hB hnc hg hg2)
 have hl:bs < w.heap.size:=block_lt h0
 obtain ⟨J,hJ⟩:∃ J,judgeS tk n bu g = J:=⟨_,rfl⟩
 rw [hJ] at HJ ⊢
 clear hS hx hJ
 go_enter Tryz.func29,Tryz.ntmps29
 go_wp2_with (go_at_call 21;refine HJ.out.mono ?_;rintro e w2 ⟨late,rb,rfl,hq2,hrb,-⟩;have HQ2:=Lib.hid hq2;clear hq2 HJ)
 cases J
 ·go_wp2_with fail
  go_ret
  exact ⟨rfl,HQ2.out.trans ((bel_alloc (Below.refl _ _) _).mono HQ2.out.size)⟩
 ·go_wp2_with fail
  go_ret
  exact ⟨rfl,HQ2.out.trans ((bel_alloc (Below.refl _ _) _).mono HQ2.out.size)⟩
theorem acc2_any (B:Nat) (bu:Int) (a:Option Addr) (n c:Nat) (tk:Nat → Tk) (h:Nat) (bs bf:Nat) (w:World) (hS:SetOk bu n tk) (hx:TksIn B w a n tk) (hB:B ≤ w.heap.size) (hnc:n ≤ c) (hh:h < maxGap)
  (h0:w.cell? ⟨bs,0,none⟩ = some (.int .i64 bu)) (h1:w.cell? ⟨bs,1,none⟩ = some (.slice a n c)) (hf:w.cell? ⟨bf,0,none⟩ = some (.func (.func 29) #[] #[.pointer (some ⟨bs,0,none⟩)])) :
  Calls Tryz.prog 31 #[.int .i64 (h:Nat),.pointer (some ⟨bf,0,none⟩)] w fun e w'=>e = .returned (.bool (accS tk n bu h)) ∧ Below w.heap.size w w':=by
 have hh2:(h:Int) + 1 ≤ 1049576:=by unfold maxGap at hh;omega
 have hh0:(0:Int) ≤ (h:Int):=by omega
 have HJ:=Lib.hid (acc1_any B bu a n c tk ((h:Int) + 1) bs w hS hx hB hnc (by omega) hh2 h0 h1)
 have eg:∀ args w,(callFunc 29 args).run Tryz.prog w = .ok (.enter 29 args) w:=enters_of Tryz.func29 (by kernel_rfl) rfl
 have hl:bf < w.heap.size:=block_lt hf
 unfold accS
 clear hS hx h0 h1 hh
 go_enter Tryz.func31,Tryz.ntmps31
 go_wp2_with fail
 refine HJ.out.mono ?_
 rintro e w2 ⟨rfl,hq2⟩
 have HQ2:=Lib.hid hq2
 clear hq2
 go_wp2_with fail
 go_ret
 exact ⟨rfl,HQ2.out⟩
end
end Go.Proofs.YtnoahekcemfmcaaGreatDoor
