/- A part of the walk: Sc Sd. -/
import Derived.Test.YtnoahekcemfmcaaGreatDoorR09
import Derived.Test.YtnoahekcemfmcaaGreatDoorR28
namespace Go.Proofs.YtnoahekcemfmcaaGreatDoor
set_option linter.unusedVariables false
set_option linter.unusedSimpArgs false
set_option maxHeartbeats 80000000
set_option maxRecDepth 100000
section
open Go.RowKit
theorem right_ok (B:Nat) (bu:Int) (a:Option Addr) (n c:Nat) (tk:Nat → Tk) (w:World) (h:SetOk bu n tk) (hx:TksIn B w a n tk) (hB:B ≤ w.heap.size) (hnc:n ≤ c) :
  Calls Tryz.prog 28 #[.agg #[.int .i64 bu,.slice a n c]] w fun e w'=>e = .returned (.bool true) ∧ Below w.heap.size w w':=by
 have hb0:=bel_alloc (Below.refl w.heap.size w) (.cells #[.int .i64 bu,.slice a n c] 24)
 have H:=Lib.hid (why_ok B bu a n c tk (w.alloc (.cells #[.int .i64 bu,.slice a n c] 24)) h (hx.keep (hb0.mono hB)) (Nat.le_trans hB hb0.size) hnc)
 have HB:=Lib.hid hb0
 clear h hx hb0
 go_enter Tryz.func28,Tryz.ntmps28
 go_wp2_with (go_at_call 52;refine H.out.mono ?_;rintro e w2 ⟨rfl,hb2⟩;clear H)
 go_ret
 exact ⟨rfl,HB.out.trans (hb2.mono HB.out.size)⟩
def tkcs (tk:Nat → Tk) (n:Nat):List Value:=(List.range n).flatMap fun i=>tkc (tk i)
theorem tkcs_len (tk:Nat → Tk) (n:Nat):(tkcs tk n).length = n * 11:=by
 unfold tkcs
 induction n with
 | zero=>rfl
 | succ n ih=>rw [List.range_succ,List.flatMap_append,List.length_append,ih];simp [tkc];omega
theorem tkcs_get (tk:Nat → Tk) (n i j:Nat) (hi:i < n) (hj:j < 11):(tkcs tk n)[i * 11 + j]? = (tkc (tk i))[j]?:=by
 unfold tkcs
 induction n with
 | zero=>omega
 | succ n ih =>
  have hl:=tkcs_len tk n
  unfold tkcs at hl
  rw [List.range_succ,List.flatMap_append]
  by_cases h:i < n
  ·rw [List.getElem?_append_left (by omega)];exact ih h
  ·have:i = n:=by omega
   subst this
   rw [List.getElem?_append_right (by omega),hl]
   simp
theorem tkcs_one (tk:Nat → Tk) (n:Nat):∀ u ∈ tkcs tk n,u.oneCell' = true:=fun u hu=>by
 unfold tkcs at hu
 rw [List.mem_flatMap] at hu
 obtain ⟨i,_,h⟩:=hu
 simp [tkc] at h
 rcases h with rfl | rfl | rfl | rfl | rfl | rfl | rfl | rfl | rfl | rfl | rfl <;> rfl
theorem TksIn.cells {B:Nat} {w:World} {a:Option Addr} {n:Nat} {tk:Nat → Tk} (h:TksIn B w a n tk) (h0:0 < n):∃ b off,a = some ⟨b,off,none⟩ ∧ b < B ∧ ∀ j u,(tkcs tk n)[j]? = some u → w.cell? ⟨b,off + j,none⟩ = some u:=by
 obtain ⟨b,off,e,hb,hc⟩:=h h0
 refine ⟨b,off,e,hb,fun j u hu=>?_⟩
 have hj:j < n * 11:=by
  have:=(List.getElem?_eq_some_iff.1 hu).1
  rwa [tkcs_len] at this
 have e1:j = j / 11 * 11 + j % 11:=by omega
 have hi:j / 11 < n:=by omega
 rw [e1,tkcs_get tk n (j / 11) (j % 11) hi (by omega)] at hu
 have:=hc (j / 11) hi (j % 11) u hu
 rw [e1,← Nat.add_assoc]
 exact this
theorem Tryz.info41:(Tryz.prog.info? 41).map (fun i=>(i.zero,i.size,i.bytes)) = some (some (.agg #[.string ⟨#[]⟩,.int .i64 0,.int .i64 0,.int .i64 0,.int .i64 0,.int .i64 0,.int .i64 0,.int .i64 0,.int .i64 0,.int .i64 0,.int .i64 0]),11,96):=by kernel_rfl
theorem clone_tk (B:Nat) (a:Option Addr) (n c:Nat) (tk:Nat → Tk) (w:World) (hx:TksIn B w a n tk) (hB:B ≤ w.heap.size) (h0:0 < n) (hn:n ≤ 16) :
  Calls Tryz.prog 54 #[.slice a n c] w fun e w'=>∃ v,e = .returned v ∧ w'.ownsRow w.heap.size 41 11 v n (tkcs tk n) ∧ Below w.heap.size w w':=by
 obtain ⟨b,off,rfl,hbB,hcs⟩:=hx.cells h0
 have R:=fun w:World=>Lib.run_eql_slice_nil (P:=Tryz.prog) w 22 41 (some ⟨b,off,none⟩) n c 0 0 Tryz.underlying22
 obtain ⟨i0,ki,kz0,kz1,kz2⟩:=info_parts Tryz.info41
 have HS:Hid (Src (w.alloc (.cells #[] 41)) (.slice (some ⟨b,off,none⟩) n c) n (tkcs tk n)):=.inr ⟨⟨b,off,none⟩,c,rfl,fun j u hu=>by
  have:=hcs j u hu
  rw [add_none]
  exact cell_bel (bel_alloc (Below.refl _ _) _) this⟩
 clear hx hcs
 go_enter Tryz.func54,Tryz.ntmps54
 go_wp2_with (at_builtin;refine wpList_append_row rfl _ _ 22 rfl w.heap.size 41 i0 _ 11 96 Tryz.underlying22 ki kz0 kz1 kz2 rfl (by omega) (.slice (some ⟨w.heap.size,0,none⟩) 0 0) 0 [] rfl (World.ownsRow_lit (size:=11) (e:=41) w #[] 0 (Nat.le_refl _) (Nat.zero_le _) rfl) _ n (tkcs tk n) rfl (tkcs_len tk n) HS.out (tkcs_one tk n) (by unfold maxLen;omega) (by omega) (by simp) ?_)
 intro v5 w5 hown5 hg5 _
 have HO5:=Lib.hid hown5
 have HB5:Hid (Below w.heap.size w w5):=Below.grown ((Below.refl _ w).alloc (Nat.le_refl _) _) hg5 (by simp) fun k e=>by simp [Value.ownBlock] at e;omega
 clear hown5 hg5
 go_wp2_with fail
 go_ret
 exact ⟨v5,rfl,by simpa using HO5.out,HB5.out⟩
end
section
open Go.RowKit
theorem Tryz.size24:(Tryz.prog.info? 24).map (·.size) = some 2:=by kernel_rfl
theorem own_some {w:World} {base e size n:Nat} {v:Value} {xs:List Value} (h:w.ownsRow base e size v n xs) (hn:0 < n):∃ b c,v = .slice (some ⟨b,0,none⟩) n c:=by
 rcases h.2 with ⟨_,h0⟩ | ⟨g,cap,cur,rfl,_⟩
 ·omega
 ·exact ⟨g,cap,rfl⟩
theorem own_fr2 {T:Nat → Prop} {w w':World} {base e size n:Nat} {v:Value} {xs:List Value} (h:w.ownsRow base e size v n xs) (hf:Fr T w w') (hT:∀ k,v.ownBlock = some k → ¬ T k):w'.ownsRow base e size v n xs :=
 ownsRow_keep h fun k hk=>hf.block k (h.lt k hk).2 (hT k hk)
theorem copy_ok (B:Nat) (bu:Int) (a:Option Addr) (n c:Nat) (tk:Nat → Tk) (w:World) (hx:TksIn B w a n tk) (hB:B ≤ w.heap.size) (h0:0 < n) (hn:n ≤ 16) :
  Calls Tryz.prog 34 #[.agg #[.int .i64 bu,.slice a n c]] w fun e w'=>∃ b c',e = .returned (.agg #[.int .i64 bu,.slice (some ⟨b,0,none⟩) n c']) ∧ w'.ownsRow w.heap.size 41 11 (.slice (some ⟨b,0,none⟩) n c') n (tkcs tk n) ∧ Below w.heap.size w w':=by
 have hb0:=bel_alloc (Below.refl w.heap.size w) (.cells #[.int .i64 bu,.slice a n c] 24)
 have hb01:=bel_alloc (Below.refl (w.alloc (.cells #[.int .i64 bu,.slice a n c] 24)).heap.size (w.alloc (.cells #[.int .i64 bu,.slice a n c] 24))) (.cells #[.int .i64 0,.slice none 0 0] 24)
 have hth0:((w.alloc (.cells #[.int .i64 bu,.slice a n c] 24)).alloc (.cells #[.int .i64 0,.slice none 0 0] 24)).there (w.heap.size + 1) 0 2:=th_new _ _ _ _ 2 (by simp) (by simp)
 have hc0:((w.alloc (.cells #[.int .i64 bu,.slice a n c] 24)).alloc (.cells #[.int .i64 0,.slice none 0 0] 24)).cell? ⟨w.heap.size,0,none⟩ = some (.int .i64 bu):=cell_bel hb01 (cell_newb _ _ _ _ 0 _ rfl rfl)
 have hc1:((w.alloc (.cells #[.int .i64 bu,.slice a n c] 24)).alloc (.cells #[.int .i64 0,.slice none 0 0] 24)).cell? ⟨w.heap.size,1,none⟩ = some (.slice a n c):=cell_bel hb01 (cell_newb _ _ _ _ 1 _ rfl rfl)
 have HQ2:Hid (∀ w',Fr (fun q=>q = w.heap.size + 1) ((w.alloc (.cells #[.int .i64 bu,.slice a n c] 24)).alloc (.cells #[.int .i64 0,.slice none 0 0] 24)) w' → w'.cell? ⟨w.heap.size,0,none⟩ = some (.int .i64 bu) ∧ w'.cell? ⟨w.heap.size,1,none⟩ = some (.slice a n c)):=fun w' hf =>
  ⟨(hf.cell (p:=⟨w.heap.size,0,none⟩) (by simp;omega) (by show ¬ w.heap.size = w.heap.size + 1;omega)).trans hc0,(hf.cell (p:=⟨w.heap.size,1,none⟩) (by simp;omega) (by show ¬ w.heap.size = w.heap.size + 1;omega)).trans hc1⟩
 have HQ:Hid (∀ w',Below ((w.alloc (.cells #[.int .i64 bu,.slice a n c] 24)).alloc (.cells #[.int .i64 0,.slice none 0 0] 24)).heap.size ((w.alloc (.cells #[.int .i64 bu,.slice a n c] 24)).alloc (.cells #[.int .i64 0,.slice none 0 0] 24)) w' → w'.cell? ⟨w.heap.size,0,none⟩ = some (.int .i64 bu) ∧ w'.cell? ⟨w.heap.size,1,none⟩ = some (.slice a n c)):=fun w' hb=>HQ2.out w' (Fr.of_below hb)
 have HC:=Lib.hid (clone_tk B a n c tk ((w.alloc (.cells #[.int .i64 bu,.slice a n c] 24)).alloc (.cells #[.int .i64 0,.slice none 0 0] 24)).drew (hx.keep (((hb0.trans (hb01.mono hb0.size)).trans (show Below w.heap.size ((w.alloc (.cells #[.int .i64 bu,.slice a n c] 24)).alloc (.cells #[.int .i64 0,.slice none 0 0] 24)) ((w.alloc (.cells #[.int .i64 bu,.slice a n c] 24)).alloc (.cells #[.int .i64 0,.slice none 0 0] 24)).drew from ⟨rfl,rfl,rfl,Nat.le_refl _,fun _ _=>rfl⟩)).mono hB)) (Nat.le_trans hB (Nat.le_trans hb0.size hb01.size)) h0 hn)
 clear hx hc0 hc1
 go_enter Tryz.func34,Tryz.ntmps34
 go_wp2_with fail
 refine wp_region_held_drew (S:=(fun w'=>w'.cell? ⟨w.heap.size,0,none⟩ = some (.int .i64 bu) ∧ w'.cell? ⟨w.heap.size,1,none⟩ = some (.slice a n c))) (by kernel_rfl) ?hS0c (fun hHeld=>?_)
 case hS0c=>(try dsimp only);exact HQ.out _ ⟨rfl,rfl,rfl,Nat.le_refl _,fun _ _=>rfl⟩
 refine wtk (i:=0) ?_
 try simp only [Act.put,List.setIfInBounds_toArray,List.set]
 refine wtk (i:=1) ?_
 try simp only [Act.put,List.setIfInBounds_toArray,List.set]
 refine wtk (i:=2) ?_
 try simp only [Act.put,List.setIfInBounds_toArray,List.set]
 refine wtk (i:=3) ?_
 try simp only [Act.put,List.setIfInBounds_toArray,List.set]
 refine wpAnyH_ready (rs:=[4]) (by kernel_rfl) (by simp) ?_
 refine arc (fun K hK=>?_) AllReadyH.nil
 go_simp
 go_at_call 54
 refine (HC.out).mono ?_
 rintro e w5 ⟨v5,rfl,hown5,hb5⟩
 obtain ⟨b5,c5,rfl⟩:=own_some hown5 h0
 have HO5:=Lib.hid hown5
 have hd5:Below ((w.alloc (.cells #[.int .i64 bu,.slice a n c] 24)).alloc (.cells #[.int .i64 0,.slice none 0 0] 24)).heap.size ((w.alloc (.cells #[.int .i64 bu,.slice a n c] 24)).alloc (.cells #[.int .i64 0,.slice none 0 0] 24)) w5:=(show Below ((w.alloc (.cells #[.int .i64 bu,.slice a n c] 24)).alloc (.cells #[.int .i64 0,.slice none 0 0] 24)).heap.size ((w.alloc (.cells #[.int .i64 bu,.slice a n c] 24)).alloc (.cells #[.int .i64 0,.slice none 0 0] 24)) ((w.alloc (.cells #[.int .i64 bu,.slice a n c] 24)).alloc (.cells #[.int .i64 0,.slice none 0 0] 24)).drew from ⟨rfl,rfl,rfl,Nat.le_refl _,fun _ _=>rfl⟩).trans hb5
 have hth5:w5.there (w.heap.size + 1) 0 2:=th_below hd5 (by simp) hth0
 clear hown5 hb5
 refine hK.out _ _ ?hSc5 (fun hHeld2=>?hrc5)
 case hSc5=>(try dsimp only);exact HQ.out _ hd5
 clear hK K hHeld
 have hHeld:=hHeld2
 clear hHeld2
 try simp only [Act.put,List.setIfInBounds_toArray,List.set]
 refine wtk (i:=5) ?_
 try simp only [Act.put,List.setIfInBounds_toArray,List.set]
 refine wpAnyH_ready (rs:=[6]) (by kernel_rfl) (by simp) ?_
 refine arc (fun K hK=>?_) AllReadyH.nil
 rw [if_pos (by rfl)]
 refine wp_store_mid 24 _ _ rfl (w.heap.size + 1) 0 _ rfl rfl hth5 Tryz.size24 (by simp [Value.oneCell']) ?_
 try simp only [Act.put,List.setIfInBounds_toArray,List.set]
 refine hK.out _ _ ?hSc7 (fun hHeld2=>?hrc7)
 case hSc7=>(try dsimp only);exact HQ2.out _ (fr_setCells (S:=fun q=>q = w.heap.size + 1) rfl _ _ _ (Fr.of_below (S:=fun q=>q = w.heap.size + 1) hd5))
 clear hK K hHeld
 have hHeld:=hHeld2
 clear hHeld2
 try simp only [Act.put,List.setIfInBounds_toArray,List.set]
 refine wpAnyH_done (by kernel_rfl) ?_ _
 clear hHeld
 have hbw:Below w.heap.size w w5:=(hb0.trans (hb01.mono hb0.size)).trans (hd5.mono (Nat.le_trans hb0.size hb01.size))
 go_wp2_with fail
 refine bodyPost_ret (res_cell rfl _ _ (w.heap.size + 1) _ _ rfl (World.rangeAt_setCells_same _ _ _ _ hth5) Tryz.underlying24 rfl Tryz.size24) rfl ⟨b5,c5,rfl,?_,below_setCells (by omega) _ _ _ hbw⟩
 have hbb:=ownsRow_block HO5.out b5 rfl
 have hsz0:((w.alloc (.cells #[.int .i64 bu,.slice a n c] 24)).alloc (.cells #[.int .i64 0,.slice none 0 0] 24)).drew.heap.size = w.heap.size + 1 + 1:=by simp
 rw [hsz0] at hbb
 exact own_base (own_fr2 HO5.out (fr_setCells (S:=fun q=>q = w.heap.size + 1) rfl _ _ _ (Fr.refl _ w5)) (fun k hk=>by have:=ownsRow_block HO5.out k hk;rw [hsz0] at this;omega)) (by rw [hsz0];omega)
end
end Go.Proofs.YtnoahekcemfmcaaGreatDoor
