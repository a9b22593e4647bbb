/- A part of the walk: Pt. -/
import Derived.Test.YtnoahekcemfmcaaGreatDoorR12
import Derived.Test.YtnoahekcemfmcaaGreatDoorR04
import Derived.StillTailTactics
namespace Go.Proofs.YtnoahekcemfmcaaGreatDoor
set_option linter.unusedVariables false
set_option linter.unusedSimpArgs false
set_option maxHeartbeats 80000000
set_option maxRecDepth 100000
section
open Go.RowKit
def pcountV (kind n m k:Int):Int:=if kind = 2 then n.tdiv k * m + min (n.tmod k) m else ceilI (n * m) k
theorem pcount_even {kind:Int} (n m k:Int) (w:World) (hd:kind ≠ 2) (hn:0 ≤ n) (hn2:n ≤ 65) (hm:1 ≤ m) (hm2:m ≤ 64) (hk:1 ≤ k) (hk2:k ≤ 64) :
  Calls Tryz.prog 184 #[.int .i64 kind,.int .i64 n,.int .i64 m,.int .i64 k] w fun e w'=>e = .returned (.int .i64 (ceilI (n * m) k)) ∧ w' = w:=by
 have hd2:(kind == 2) = false:=by simpa using hd
 have h0:0 ≤ n * m:=Int.mul_nonneg hn (by omega)
 have h1:n * m ≤ 65 * 64:=Int.mul_le_mul hn2 hm2 (by omega) (by omega)
 have HM:=Lib.hid (fun w=>mul_any n m w hn (by omega) (by omega) (by omega))
 have HC:=Lib.hid (fun w=>ceil_any (n * m) k w h0 hk (by omega) (by omega))
 clear h0 h1
 go_enter Tryz.func184,Tryz.ntmps184
 go_wp2_with (first | (go_at_call 116;refine (HM.out _).mono ?_;rintro e w' ⟨rfl,rfl⟩) | (go_at_call 119;refine (HC.out _).mono ?_;rintro e w' ⟨rfl,rfl⟩))
 go_ret
 exact ⟨rfl,rfl⟩
theorem pcount_deep (n m k:Int) (w:World) (hn:0 ≤ n) (hn2:n ≤ 65) (hm:1 ≤ m) (hm2:m ≤ 64) (hk:1 ≤ k) (hk2:k ≤ 64) :
  Calls Tryz.prog 184 #[.int .i64 2,.int .i64 n,.int .i64 m,.int .i64 k] w fun e w'=>e = .returned (.int .i64 (n.tdiv k * m + min (n.tmod k) m)) ∧ ∃ q,w' = w.drewN q:=by
 have hk0:k ≠ 0:=by omega
 obtain ⟨q,hq⟩:∃ q,n.tdiv k = q:=⟨_,rfl⟩
 obtain ⟨r,hr⟩:∃ r,n.tmod k = r:=⟨_,rfl⟩
 have hq0:0 ≤ q:=by rw [← hq];exact Int.tdiv_nonneg hn (by omega)
 have hqn:q ≤ n:=by rw [← hq];exact Int.tdiv_le_self k hn
 have hr0:0 ≤ r:=by rw [← hr];exact Int.tmod_nonneg k hn
 have hrk:r < k:=by rw [← hr];exact Int.tmod_lt_of_pos n (by omega)
 have h0:0 ≤ q * m:=Int.mul_nonneg hq0 (by omega)
 have h1:q * m ≤ 65 * 64:=Int.mul_le_mul (by omega) hm2 (by omega) (by omega)
 obtain ⟨z,hz⟩:∃ z,q * m = z:=⟨_,rfl⟩
 have e1:wrap64 (q * m) = z:=by rw [w64 (by omega) (by omega)];exact hz
 have e1':IntKind.i64.wrap (q * m) = z:=by rw [IntWalk.i64_in _ (by omega)];exact hz
 rw [hz] at h0 h1
 have e2:wrap64 (z + min r m) = z + min r m:=w64 (by omega) (by omega)
 have hmn:(if m < r then m else r) = min r m:=by omega
 have hmn2:(if r < m then r else m) = min r m:=by omega
 rw [hq,hr,hz]
 clear hz
 go_enter Tryz.func184,Tryz.ntmps184
 go_wp2_with fail
 go_quiet (skip)
 go_wp2_with fail
 go_ret
 exact ⟨rfl,_,rfl⟩
theorem pcount_any {kind:Int} (n m k:Int) (w:World) (hn:0 ≤ n) (hn2:n ≤ 65) (hm:1 ≤ m) (hm2:m ≤ 64) (hk:1 ≤ k) (hk2:k ≤ 64) :
  Calls Tryz.prog 184 #[.int .i64 kind,.int .i64 n,.int .i64 m,.int .i64 k] w fun e w'=>e = .returned (.int .i64 (pcountV kind n m k)) ∧ ∃ q,w' = w.drewN q:=by
 unfold pcountV
 by_cases h:kind = 2
 ·subst h
  rw [if_pos rfl]
  exact pcount_deep n m k w hn hn2 hm hm2 hk hk2
 ·rw [if_neg h]
  exact (pcount_even n m k w h hn hn2 hm hm2 hk hk2).mono fun e w' h=>⟨h.1,0,h.2⟩
structure PCl (w:World) (R o ak ax ai am:Nat) (k kind m:Int):Prop where
 k_:w.cell? ⟨ak,0,none⟩ = some (.int .i64 k)
 x_:w.cell? ⟨ax,0,none⟩ = some (.pointer (some ⟨R,o,none⟩))
 i_:w.cell? ⟨ai,0,none⟩ = some (.int .i64 kind)
 m_:w.cell? ⟨am,0,none⟩ = some (.int .i64 m)
 nk:ak ≠ R
 nx:ax ≠ R
 ni:ai ≠ R
 nm:am ≠ R
 fz:∀ o,w.frozen? ⟨R,o,none⟩ = false
 k1:1 ≤ k
 k2:k ≤ 64
 m1:1 ≤ m
 m2:m ≤ 64
theorem PCl.keep {w w':World} {R o ak ax ai am:Nat} {k kind m:Int} (h:PCl w R o ak ax ai am k kind m) (hR:R < w.heap.size) (hf:Fr (· = R) w w') (hz:∀ o,w'.frozen? ⟨R,o,none⟩ = false):PCl w' R o ak ax ai am k kind m :=
 ⟨(hf.cell (p:=⟨ak,0,none⟩) (block_lt h.k_) h.nk).trans h.k_,(hf.cell (p:=⟨ax,0,none⟩) (block_lt h.x_) h.nx).trans h.x_,(hf.cell (p:=⟨ai,0,none⟩) (block_lt h.i_) h.ni).trans h.i_,(hf.cell (p:=⟨am,0,none⟩) (block_lt h.m_) h.nm).trans h.m_,h.nk,h.nx,h.ni,h.nm,hz,h.k1,h.k2,h.m1,h.m2⟩
theorem pcl_even {w:World} {R o ak ax ai am:Nat} {k kind m:Int} {d u:Value} (h:PCl w R o ak ax ai am k kind m) (hd:w.cell? ⟨R,o,none⟩ = some d) (hu:w.cell? ⟨R,o + 1,none⟩ = some u) (hl:w.cell? ⟨R,o + 3,none⟩ = some (.slice none 0 0)) :
  Calls Tryz.prog 183 #[.pointer (some ⟨ak,0,none⟩),.pointer (some ⟨ax,0,none⟩),.pointer (some ⟨ai,0,none⟩),.pointer (some ⟨am,0,none⟩)] w fun e w'=>e = .returned (.tuple #[]) ∧ Fr (· = R) w w' ∧
   w'.cell? ⟨R,o,none⟩ = some d ∧ w'.cell? ⟨R,o + 1,none⟩ = some u ∧ (∀ o,w'.frozen? ⟨R,o,none⟩ = false) ∧ ∃ a c xs,w'.cell? ⟨R,o + 3,none⟩ = some (.slice a k.toNat c) ∧ BoolsIn w'.heap.size w' a k.toNat xs:=by
 have hR:R < w.heap.size:=block_lt hd
 have hk1:=h.k1
 have hk2:=h.k2
 have hm1:=h.m1
 have hm2:=h.m2
 have hk:=h.k_
 obtain ⟨i0,ki,kz0,kz1,kz2⟩:=info_parts Tryz.info4
 have hf0:Fr (· = R) w w:=Fr.refl _ _
 have hfz:=h.fz
 go_enter Tryz.func183,Tryz.ntmps183
 go_wp2_with fail
 go_loopw [6,4] (fun ix s4 wx=>∃ n:Nat,(n:Int) ≤ k ∧ ix = .int .i64 n ∧ Fr (· = R) w wx ∧ wx.cell? ⟨R,o,none⟩ = some d ∧ wx.cell? ⟨R,o + 1,none⟩ = some u ∧ (∀ o,wx.frozen? ⟨R,o,none⟩ = false) ∧
   ∃ (so:Value) (xs:List Bool),xs.length = n ∧ wx.cell? ⟨R,o + 3,none⟩ = some so ∧ Hid (wx.ownsRow w.heap.size 4 1 so n (xs.map bc))) (fun ix _ _=>k.toNat - (intOf ix).toNat)
 case atStart=>exact ⟨0,by omega,rfl,hf0,hd,hu,hfz,_,[],rfl,hl,World.ownsRow_nil _ _ _ _⟩
 case round =>
  clear hf0
  obtain ⟨n,hn,rfl,hf,hd',hu',hz',so,xs,hxl,hso,HO⟩:=hrel
  have hcl:=h.keep hR hf hz'
  by_cases hlt:(n:Int) < k
  ·have hdl:decide ((n:Int) < k) = true:=decide_eq_true hlt
   have q1:=hcl.k_
   have q2:=hcl.x_
   have q3:=hcl.i_
   have q4:=hcl.m_
   have hn0:(0:Int) ≤ (n:Int):=by omega
   have hn64:(n:Int) ≤ 64:=by omega
   have zl:=hz' (o + 3)
   have HC1:=Lib.hid (fun w=>pcount_any (kind:=kind) ((n:Int) + 1) m k w (by omega) (by omega) hm1 hm2 hk1 hk2)
   have HC2:=Lib.hid (fun w=>pcount_any (kind:=kind) (n:Int) m k w (by omega) (by omega) hm1 hm2 hk1 hk2)
   obtain ⟨a9,c9,rfl⟩:=ownsRow_form HO.out
   have hBw:w.heap.size ≤ wr.heap.size:=hf.size
   go_wp2_with fail
   have HC1':=HC1.out
   have HC2':=HC2.out
   generalize pcountV kind ((n:Int) + 1) m k = r1 at HC1'
   generalize pcountV kind (n:Int) m k = r2 at HC2'
   have HD1:=Lib.hid HC1'
   have HD2:=Lib.hid HC2'
   clear HC1 HC2 HC1' HC2'
   have hwr:IntKind.i64.wrap ((n:Int) + 1) = (n:Int) + 1:=by unfold IntKind.wrap;simp [IntKind.bits,IntKind.signed];omega
   have HFS:Hid (∀ q:Nat,q < w.heap.size → q ≠ R → ¬ (q = R ∨ (Value.slice a9 n c9).ownBlock = some q)):=fun q h1 h2 h=>by
    rcases h with h | h
    ·exact h2 h
    ·have:=ownsRow_block HO.out q h;omega
   let FS:Nat → Prop:=fun q=>q = R ∨ (Value.slice a9 n c9).ownBlock = some q
   have HQ:Hid (∀ w',Fr FS wr w' → w'.cell? ⟨ak,0,none⟩ = some (.int .i64 k) ∧ w'.cell? ⟨ax,0,none⟩ = some (.pointer (some ⟨R,o,none⟩)) ∧ w'.cell? ⟨ai,0,none⟩ = some (.int .i64 kind) ∧ w'.cell? ⟨am,0,none⟩ = some (.int .i64 m) ∧ Fr FS wr w'):=fun w' hf =>
    ⟨(hf.cell (p:=⟨ak,0,none⟩) (block_lt q1) (HFS.out _ (block_lt h.k_) h.nk)).trans q1,(hf.cell (p:=⟨ax,0,none⟩) (block_lt q2) (HFS.out _ (block_lt h.x_) h.nx)).trans q2,(hf.cell (p:=⟨ai,0,none⟩) (block_lt q3) (HFS.out _ (block_lt h.i_) h.ni)).trans q3,(hf.cell (p:=⟨am,0,none⟩) (block_lt q4) (HFS.out _ (block_lt h.m_) h.nm)).trans q4,hf⟩
   have hsoA:∀ ob,(wr.alloc ob).cell? ⟨R,o + 3,none⟩ = some (.slice a9 n c9):=fun ob=>(((Fr.refl (fun _=>False) wr).alloc ob).cell (p:=⟨R,o + 3,none⟩) (block_lt hso) (by simp)).trans hso
   have hsoB:∀ q ob,((wr.drewN q).alloc ob).cell? ⟨R,o + 3,none⟩ = some (.slice a9 n c9):=fun q ob=>((((Fr.refl (fun _=>False) wr).drewN q).alloc ob).cell (p:=⟨R,o + 3,none⟩) (block_lt hso) (by simp)).trans hso
   have hRr:R < wr.heap.size:=Nat.lt_of_lt_of_le hR hf.size
   have HRO:Hid (¬ (Value.slice a9 n c9).ownBlock = some R):=fun e=>by have:=ownsRow_block HO.out R e;omega
   have HEND:Hid (∀ (w6:World) (gg cap2:Nat),Fr (fun q=>(Value.slice a9 n c9).ownBlock = some q) wr w6 → w6.ownsRow w.heap.size 4 1 (.slice (some ⟨gg,0,none⟩) (n + 1) cap2) (n + 1) (xs.map bc ++ [.bool (decide (r1 > r2))]) →
     Fr (· = R) w (w6.setCell ⟨R,o + 3,none⟩ (.slice (some ⟨gg,0,none⟩) (n + 1) cap2)) ∧ (w6.setCell ⟨R,o + 3,none⟩ (.slice (some ⟨gg,0,none⟩) (n + 1) cap2)).cell? ⟨R,o,none⟩ = some d ∧ (w6.setCell ⟨R,o + 3,none⟩ (.slice (some ⟨gg,0,none⟩) (n + 1) cap2)).cell? ⟨R,o + 1,none⟩ = some u ∧
     (∀ o',(w6.setCell ⟨R,o + 3,none⟩ (.slice (some ⟨gg,0,none⟩) (n + 1) cap2)).frozen? ⟨R,o',none⟩ = false) ∧
     ∃ (so:Value) (ys:List Bool),ys.length = n + 1 ∧ (w6.setCell ⟨R,o + 3,none⟩ (.slice (some ⟨gg,0,none⟩) (n + 1) cap2)).cell? ⟨R,o + 3,none⟩ = some so ∧ Hid ((w6.setCell ⟨R,o + 3,none⟩ (.slice (some ⟨gg,0,none⟩) (n + 1) cap2)).ownsRow w.heap.size 4 1 so (n + 1) (ys.map bc))):=fun w6 gg cap2 f6 hown6=>by
    have f7:Fr (· = R) w w6:=hf.trans (U:=fun q=>q = R) f6 (fun _ _ h=>h) (fun i hi e=>by have:=ownsRow_block HO.out i e;omega)
    have hgb:gg ≠ R:=by
     have:=ownsRow_block hown6 gg rfl
     omega
    refine ⟨f7.setCell (p:=⟨R,o + 3,none⟩) rfl _,?_,?_,fun o'=>?_,.slice (some ⟨gg,0,none⟩) (n + 1) cap2,xs ++ [decide (r1 > r2)],by simp [hxl],?_,?_⟩
    ·rw [World.cell?_setCell_other _ _ _ _ (addr_ne (by omega))];exact (f6.cell (p:=⟨R,o,none⟩) hRr HRO.out).trans hd'
    ·rw [World.cell?_setCell_other _ _ _ _ (addr_ne (by omega))];exact (f6.cell (p:=⟨R,o + 1,none⟩) hRr HRO.out).trans hu'
    ·rw [show (w6.setCell ⟨R,o + 3,none⟩ (.slice (some ⟨gg,0,none⟩) (n + 1) cap2)).frozen? ⟨R,o',none⟩ = w6.frozen? ⟨R,o',none⟩ from by simp];exact (f6.frozen (p:=⟨R,o',none⟩) hRr HRO.out).trans (hz' o')
    ·exact World.cell?_setCell_same _ _ _ ((f6.cell (p:=⟨R,o + 3,none⟩) hRr HRO.out).trans hso)
    ·show World.ownsRow _ _ _ _ _ _ _
     rw [List.map_append]
     exact ownsRow_keep hown6 (fun q hq=>Below.heap_setCell _ _ _ _ (by simp only [Value.ownBlock,Option.some.injEq] at hq;subst hq;exact fun e=>hgb e))
   clear q1 q2 q3 q4 hcl hd' hu' hz'
   refine wp_region_held_drew (S:=(fun w'=>w'.cell? ⟨ak,0,none⟩ = some (.int .i64 k) ∧ w'.cell? ⟨ax,0,none⟩ = some (.pointer (some ⟨R,o,none⟩)) ∧ w'.cell? ⟨ai,0,none⟩ = some (.int .i64 kind) ∧ w'.cell? ⟨am,0,none⟩ = some (.int .i64 m) ∧ Fr FS wr w')) (by kernel_rfl) ?hS0 (fun hHeld=>?_)
   case hS0=>(try dsimp only);exact HQ.out _ ((Fr.refl _ _).drew)
   refine wtk (i:=0) ?_
   try simp only [Act.put,List.setIfInBounds_toArray,List.set]
   refine wtk (i:=1) ?_
   try simp only [Act.put,List.setIfInBounds_toArray,List.set]
   refine wtk (i:=2) ?_
   try simp only [Act.put,List.setIfInBounds_toArray,List.set]
   refine wtk (i:=3) ?_
   try simp only [Act.put,List.setIfInBounds_toArray,List.set]
   refine wtk (i:=5) ?_
   try simp only [Act.put,List.setIfInBounds_toArray,List.set]
   refine wtk (i:=6) ?_
   try simp only [Act.put,List.setIfInBounds_toArray,List.set]
   refine wtk (i:=7) ?_
   try simp only [Act.put,List.setIfInBounds_toArray,List.set]
   refine wtk (i:=8) ?_
   try simp only [Act.put,List.setIfInBounds_toArray,List.set]
   refine wtk (i:=9) ?_
   try simp only [Act.put,List.setIfInBounds_toArray,List.set]
   refine wtk (i:=11) ?_
   try simp only [Act.put,List.setIfInBounds_toArray,List.set]
   refine wtk (i:=12) ?_
   try simp only [Act.put,List.setIfInBounds_toArray,List.set]
   refine wtk (i:=13) ?_
   try simp only [Act.put,List.setIfInBounds_toArray,List.set]
   refine wtk (i:=14) ?_
   try simp only [Act.put,List.setIfInBounds_toArray,List.set]
   refine wpAnyH_ready (rs:=[4,10]) (by kernel_rfl) (by simp) ?_
   refine arc (fun K hK=>?_) ?_
   ·skip
    as_aux_lemma =>
    go_simp
    refine hK.out _ _ ?hS14 (fun hHeld2=>?hr14)
    case hS14=>(try dsimp only);exact HQ.out _ (by first | exact (Fr.refl _ _).drew | exact hHeld.2.2.2.2 | exact hHeld.2.2.2.2.drew | exact ⟨hHeld.2.2.2.2.os,hHeld.2.2.2.2.tape,hHeld.2.2.2.2.output,hHeld.2.2.2.2.size,hHeld.2.2.2.2.block⟩ | exact Fr.alloc hHeld.2.2.2.2 _ | exact Fr.grown hHeld.2.2.2.2 hgrow (fun g h _=>.inr h) | exact Fr.setCell hHeld.2.2.2.2 (p:=⟨R,o + 3,none⟩) (.inl rfl) _)
    clear hK K hHeld
    have hHeld:=hHeld2
    clear hHeld2
    try simp only [Act.put,List.setIfInBounds_toArray,List.set]
    refine wpAnyH_ready (rs:=[10]) (by kernel_rfl) (by simp) ?_
    refine arc (fun K hK=>?_) ?_
    ·skip
     as_aux_lemma =>
     go_simp;go_at_call 184;refine Calls.mono (HD1.out _) ?_;rintro e w4 ⟨rfl,qq,rfl⟩;try go_wp2_with fail
     refine hK.out _ _ ?hS15 (fun hHeld2=>?hr15)
     case hS15=>(try dsimp only);exact HQ.out _ (by first | exact (Fr.refl _ _).drew | exact hHeld.2.2.2.2 | exact hHeld.2.2.2.2.drew | exact ⟨hHeld.2.2.2.2.os,hHeld.2.2.2.2.tape,hHeld.2.2.2.2.output,hHeld.2.2.2.2.size,hHeld.2.2.2.2.block⟩ | exact Fr.alloc hHeld.2.2.2.2 _ | exact Fr.grown hHeld.2.2.2.2 hgrow (fun g h _=>.inr h) | exact Fr.setCell hHeld.2.2.2.2 (p:=⟨R,o + 3,none⟩) (.inl rfl) _)
     clear hK K hHeld
     have hHeld:=hHeld2
     clear hHeld2
     try simp only [Act.put,List.setIfInBounds_toArray,List.set]
     refine wpAnyH_ready (rs:=[15]) (by kernel_rfl) (by simp) ?_
     refine arc (fun K hK=>?_) ?_
     ·skip
      as_aux_lemma =>
      go_simp;go_at_call 184;refine Calls.mono (HD2.out _) ?_;rintro e w4 ⟨rfl,qq,rfl⟩;try go_wp2_with fail
      refine hK.out _ _ ?hS16 (fun hHeld2=>?hr16)
      case hS16=>(try dsimp only);exact HQ.out _ (by first | exact (Fr.refl _ _).drew | exact hHeld.2.2.2.2 | exact hHeld.2.2.2.2.drew | exact ⟨hHeld.2.2.2.2.os,hHeld.2.2.2.2.tape,hHeld.2.2.2.2.output,hHeld.2.2.2.2.size,hHeld.2.2.2.2.block⟩ | exact Fr.alloc hHeld.2.2.2.2 _ | exact Fr.grown hHeld.2.2.2.2 hgrow (fun g h _=>.inr h) | exact Fr.setCell hHeld.2.2.2.2 (p:=⟨R,o + 3,none⟩) (.inl rfl) _)
      clear hK K hHeld
      have hHeld:=hHeld2
      clear hHeld2
      try simp only [Act.put,List.setIfInBounds_toArray,List.set]
      refine wtk (i:=16) ?_
      try simp only [Act.put,List.setIfInBounds_toArray,List.set]
      refine wpAnyH_ready (rs:=[17]) (by kernel_rfl) (by simp) ?_
      refine arc (fun K hK=>?_) ?_
      ·skip
       as_aux_lemma =>
       go_simp
       refine hK.out _ _ ?hS18 (fun hHeld2=>?hr18)
       case hS18=>(try dsimp only);exact HQ.out _ (by first | exact (Fr.refl _ _).drew | exact hHeld.2.2.2.2 | exact hHeld.2.2.2.2.drew | exact ⟨hHeld.2.2.2.2.os,hHeld.2.2.2.2.tape,hHeld.2.2.2.2.output,hHeld.2.2.2.2.size,hHeld.2.2.2.2.block⟩ | exact Fr.alloc hHeld.2.2.2.2 _ | exact Fr.grown hHeld.2.2.2.2 hgrow (fun g h _=>.inr h) | exact Fr.setCell hHeld.2.2.2.2 (p:=⟨R,o + 3,none⟩) (.inl rfl) _)
       clear hK K hHeld
       have hHeld:=hHeld2
       clear hHeld2
       try simp only [Act.put,List.setIfInBounds_toArray,List.set]
       refine wpAnyH_ready (rs:=[18]) (by kernel_rfl) (by simp) ?_
       refine arc (fun K hK=>?_) ?_
       ·skip
        as_aux_lemma =>
        refine step_append_lies _ (by rfl) _ _ _ (by rfl) w.heap.size 4 i0 _ 1 1 Tryz.underlying42 ki kz0 kz1 kz2 rfl (by omega) _ _ _ (by rfl) (own_fr HO.out (by repeat (first | exact Fr.refl _ _ | refine Fr.alloc ?_ _ | refine Fr.drew ?_ | refine Fr.drewN ?_ _ | refine Fr.drewN ?_ _))) ⟨wr.heap.size,0,none⟩ 1 1 [.bool (decide (r1 > r2))] (by rfl) (by rfl) (fun j u hu=>by first | exact cell_new _ _ _ j u hu | (rw [World.cell?_drew];exact cell_new _ _ _ j u hu)) (by simp [Value.oneCell']) (by omega) (by unfold maxLen;omega) (by omega) (by simp;omega) (wr.heap.size + 1) (by simp) ?_;intro gg cap2 w6 hown6 hgrow hat hlt6;have f6:Fr (fun q=>(Value.slice a9 n c9).ownBlock = some q) wr w6:=Fr.grown (by repeat (first | exact Fr.refl _ _ | refine Fr.alloc ?_ _ | refine Fr.drew ?_ | refine Fr.drewN ?_ _ | refine Fr.drewN ?_ _)) hgrow (fun g h _=>h);have c6:=(f6.cell (p:=⟨R,o + 3,none⟩) hRr HRO.out).trans hso;have z6:=(f6.frozen (p:=⟨R,o + 3,none⟩) hRr HRO.out).trans zl;try simp only [Act.put,List.setIfInBounds_toArray,List.set]
        refine hK.out _ _ ?hS19 (fun hHeld2=>?hr19)
        case hS19=>(try dsimp only);exact HQ.out _ (by first | exact (Fr.refl _ _).drew | exact hHeld.2.2.2.2 | exact hHeld.2.2.2.2.drew | exact ⟨hHeld.2.2.2.2.os,hHeld.2.2.2.2.tape,hHeld.2.2.2.2.output,hHeld.2.2.2.2.size,hHeld.2.2.2.2.block⟩ | exact Fr.alloc hHeld.2.2.2.2 _ | exact Fr.grown hHeld.2.2.2.2 hgrow (fun g h _=>.inr h) | exact Fr.setCell hHeld.2.2.2.2 (p:=⟨R,o + 3,none⟩) (.inl rfl) _)
        clear hK K hHeld
        have hHeld:=hHeld2
        clear hHeld2
        try simp only [Act.put,List.setIfInBounds_toArray,List.set]
        refine wtk (i:=19) ?_
        try simp only [Act.put,List.setIfInBounds_toArray,List.set]
        refine wtk (i:=20) ?_
        try simp only [Act.put,List.setIfInBounds_toArray,List.set]
        refine wpAnyH_ready (rs:=[21]) (by kernel_rfl) (by simp) ?_
        refine arc (fun K hK=>?_) ?_
        ·skip
         as_aux_lemma =>
         go_simp
         refine hK.out _ _ ?hS22 (fun hHeld2=>?hr22)
         case hS22=>(try dsimp only);exact HQ.out _ (by first | exact (Fr.refl _ _).drew | exact hHeld.2.2.2.2 | exact hHeld.2.2.2.2.drew | exact ⟨hHeld.2.2.2.2.os,hHeld.2.2.2.2.tape,hHeld.2.2.2.2.output,hHeld.2.2.2.2.size,hHeld.2.2.2.2.block⟩ | exact Fr.alloc hHeld.2.2.2.2 _ | exact Fr.grown hHeld.2.2.2.2 hgrow (fun g h _=>.inr h) | exact Fr.setCell hHeld.2.2.2.2 (p:=⟨R,o + 3,none⟩) (.inl rfl) _)
         clear hK K hHeld
         have hHeld:=hHeld2
         clear hHeld2
         try simp only [Act.put,List.setIfInBounds_toArray,List.set]
         refine wpAnyH_done (by kernel_rfl) ?_ _
         have f7:=HEND.out w6 gg cap2 f6 hown6
         clear hHeld hown6 hgrow f6 c6 z6 hsoA hsoB hat
         go_wp2_with fail
         go_roundw
         case rel=>exact ⟨n + 1,by omega,by simp,f7⟩
         case measure=>simp [intOf];omega
        exact AllReadyH.nil
       exact AllReadyH.nil
      exact AllReadyH.nil
     exact AllReadyH.nil
    exact AllReadyH.nil
   refine arc (fun K hK=>?_) ?_
   ·skip
    as_aux_lemma =>
    go_simp;go_at_call 184;refine Calls.mono (HD1.out _) ?_;rintro e w4 ⟨rfl,qq,rfl⟩;try go_wp2_with fail
    refine hK.out _ _ ?hS23 (fun hHeld2=>?hr23)
    case hS23=>(try dsimp only);exact HQ.out _ (by first | exact (Fr.refl _ _).drew | exact hHeld.2.2.2.2 | exact hHeld.2.2.2.2.drew | exact ⟨hHeld.2.2.2.2.os,hHeld.2.2.2.2.tape,hHeld.2.2.2.2.output,hHeld.2.2.2.2.size,hHeld.2.2.2.2.block⟩ | exact Fr.alloc hHeld.2.2.2.2 _ | exact Fr.grown hHeld.2.2.2.2 hgrow (fun g h _=>.inr h) | exact Fr.setCell hHeld.2.2.2.2 (p:=⟨R,o + 3,none⟩) (.inl rfl) _)
    clear hK K hHeld
    have hHeld:=hHeld2
    clear hHeld2
    try simp only [Act.put,List.setIfInBounds_toArray,List.set]
    refine wpAnyH_ready (rs:=[4,15]) (by kernel_rfl) (by simp) ?_
    refine arc (fun K hK=>?_) ?_
    ·skip
     as_aux_lemma =>
     go_simp
     refine hK.out _ _ ?hS24 (fun hHeld2=>?hr24)
     case hS24=>(try dsimp only);exact HQ.out _ (by first | exact (Fr.refl _ _).drew | exact hHeld.2.2.2.2 | exact hHeld.2.2.2.2.drew | exact ⟨hHeld.2.2.2.2.os,hHeld.2.2.2.2.tape,hHeld.2.2.2.2.output,hHeld.2.2.2.2.size,hHeld.2.2.2.2.block⟩ | exact Fr.alloc hHeld.2.2.2.2 _ | exact Fr.grown hHeld.2.2.2.2 hgrow (fun g h _=>.inr h) | exact Fr.setCell hHeld.2.2.2.2 (p:=⟨R,o + 3,none⟩) (.inl rfl) _)
     clear hK K hHeld
     have hHeld:=hHeld2
     clear hHeld2
     try simp only [Act.put,List.setIfInBounds_toArray,List.set]
     refine wpAnyH_ready (rs:=[15]) (by kernel_rfl) (by simp) ?_
     refine arc (fun K hK=>?_) ?_
     ·skip
      as_aux_lemma =>
      go_simp;go_at_call 184;refine Calls.mono (HD2.out _) ?_;rintro e w4 ⟨rfl,qq,rfl⟩;try go_wp2_with fail
      refine hK.out _ _ ?hS25 (fun hHeld2=>?hr25)
      case hS25=>(try dsimp only);exact HQ.out _ (by first | exact (Fr.refl _ _).drew | exact hHeld.2.2.2.2 | exact hHeld.2.2.2.2.drew | exact ⟨hHeld.2.2.2.2.os,hHeld.2.2.2.2.tape,hHeld.2.2.2.2.output,hHeld.2.2.2.2.size,hHeld.2.2.2.2.block⟩ | exact Fr.alloc hHeld.2.2.2.2 _ | exact Fr.grown hHeld.2.2.2.2 hgrow (fun g h _=>.inr h) | exact Fr.setCell hHeld.2.2.2.2 (p:=⟨R,o + 3,none⟩) (.inl rfl) _)
      clear hK K hHeld
      have hHeld:=hHeld2
      clear hHeld2
      try simp only [Act.put,List.setIfInBounds_toArray,List.set]
      refine wtk (i:=16) ?_
      try simp only [Act.put,List.setIfInBounds_toArray,List.set]
      refine wpAnyH_ready (rs:=[17]) (by kernel_rfl) (by simp) ?_
      refine arc (fun K hK=>?_) ?_
      ·skip
       as_aux_lemma =>
       go_simp
       refine hK.out _ _ ?hS27 (fun hHeld2=>?hr27)
       case hS27=>(try dsimp only);exact HQ.out _ (by first | exact (Fr.refl _ _).drew | exact hHeld.2.2.2.2 | exact hHeld.2.2.2.2.drew | exact ⟨hHeld.2.2.2.2.os,hHeld.2.2.2.2.tape,hHeld.2.2.2.2.output,hHeld.2.2.2.2.size,hHeld.2.2.2.2.block⟩ | exact Fr.alloc hHeld.2.2.2.2 _ | exact Fr.grown hHeld.2.2.2.2 hgrow (fun g h _=>.inr h) | exact Fr.setCell hHeld.2.2.2.2 (p:=⟨R,o + 3,none⟩) (.inl rfl) _)
       clear hK K hHeld
       have hHeld:=hHeld2
       clear hHeld2
       try simp only [Act.put,List.setIfInBounds_toArray,List.set]
       refine wpAnyH_ready (rs:=[18]) (by kernel_rfl) (by simp) ?_
       refine arc (fun K hK=>?_) ?_
       ·skip
        as_aux_lemma =>
        refine step_append_lies _ (by rfl) _ _ _ (by rfl) w.heap.size 4 i0 _ 1 1 Tryz.underlying42 ki kz0 kz1 kz2 rfl (by omega) _ _ _ (by rfl) (own_fr HO.out (by repeat (first | exact Fr.refl _ _ | refine Fr.alloc ?_ _ | refine Fr.drew ?_ | refine Fr.drewN ?_ _ | refine Fr.drewN ?_ _))) ⟨wr.heap.size,0,none⟩ 1 1 [.bool (decide (r1 > r2))] (by rfl) (by rfl) (fun j u hu=>by first | exact cell_new _ _ _ j u hu | (rw [World.cell?_drew];exact cell_new _ _ _ j u hu)) (by simp [Value.oneCell']) (by omega) (by unfold maxLen;omega) (by omega) (by simp;omega) (wr.heap.size + 1) (by simp) ?_;intro gg cap2 w6 hown6 hgrow hat hlt6;have f6:Fr (fun q=>(Value.slice a9 n c9).ownBlock = some q) wr w6:=Fr.grown (by repeat (first | exact Fr.refl _ _ | refine Fr.alloc ?_ _ | refine Fr.drew ?_ | refine Fr.drewN ?_ _ | refine Fr.drewN ?_ _)) hgrow (fun g h _=>h);have c6:=(f6.cell (p:=⟨R,o + 3,none⟩) hRr HRO.out).trans hso;have z6:=(f6.frozen (p:=⟨R,o + 3,none⟩) hRr HRO.out).trans zl;try simp only [Act.put,List.setIfInBounds_toArray,List.set]
        refine hK.out _ _ ?hS28 (fun hHeld2=>?hr28)
        case hS28=>(try dsimp only);exact HQ.out _ (by first | exact (Fr.refl _ _).drew | exact hHeld.2.2.2.2 | exact hHeld.2.2.2.2.drew | exact ⟨hHeld.2.2.2.2.os,hHeld.2.2.2.2.tape,hHeld.2.2.2.2.output,hHeld.2.2.2.2.size,hHeld.2.2.2.2.block⟩ | exact Fr.alloc hHeld.2.2.2.2 _ | exact Fr.grown hHeld.2.2.2.2 hgrow (fun g h _=>.inr h) | exact Fr.setCell hHeld.2.2.2.2 (p:=⟨R,o + 3,none⟩) (.inl rfl) _)
        clear hK K hHeld
        have hHeld:=hHeld2
        clear hHeld2
        try simp only [Act.put,List.setIfInBounds_toArray,List.set]
        refine wtk (i:=19) ?_
        try simp only [Act.put,List.setIfInBounds_toArray,List.set]
        refine wtk (i:=20) ?_
        try simp only [Act.put,List.setIfInBounds_toArray,List.set]
        refine wpAnyH_ready (rs:=[21]) (by kernel_rfl) (by simp) ?_
        refine arc (fun K hK=>?_) ?_
        ·skip
         as_aux_lemma =>
         go_simp
         refine hK.out _ _ ?hS31 (fun hHeld2=>?hr31)
         case hS31=>(try dsimp only);exact HQ.out _ (by first | exact (Fr.refl _ _).drew | exact hHeld.2.2.2.2 | exact hHeld.2.2.2.2.drew | exact ⟨hHeld.2.2.2.2.os,hHeld.2.2.2.2.tape,hHeld.2.2.2.2.output,hHeld.2.2.2.2.size,hHeld.2.2.2.2.block⟩ | exact Fr.alloc hHeld.2.2.2.2 _ | exact Fr.grown hHeld.2.2.2.2 hgrow (fun g h _=>.inr h) | exact Fr.setCell hHeld.2.2.2.2 (p:=⟨R,o + 3,none⟩) (.inl rfl) _)
         clear hK K hHeld
         have hHeld:=hHeld2
         clear hHeld2
         try simp only [Act.put,List.setIfInBounds_toArray,List.set]
         refine wpAnyH_done (by kernel_rfl) ?_ _
         have f7:=HEND.out w6 gg cap2 f6 hown6
         clear hHeld hown6 hgrow f6 c6 z6 hsoA hsoB hat
         go_wp2_with fail
         go_roundw
         case rel=>exact ⟨n + 1,by omega,by simp,f7⟩
         case measure=>simp [intOf];omega
        exact AllReadyH.nil
       exact AllReadyH.nil
      exact AllReadyH.nil
     exact AllReadyH.nil
    refine arc (fun K hK=>?_) ?_
    ·skip
     as_aux_lemma =>
     go_simp;go_at_call 184;refine Calls.mono (HD2.out _) ?_;rintro e w4 ⟨rfl,qq,rfl⟩;try go_wp2_with fail
     refine hK.out _ _ ?hS32 (fun hHeld2=>?hr32)
     case hS32=>(try dsimp only);exact HQ.out _ (by first | exact (Fr.refl _ _).drew | exact hHeld.2.2.2.2 | exact hHeld.2.2.2.2.drew | exact ⟨hHeld.2.2.2.2.os,hHeld.2.2.2.2.tape,hHeld.2.2.2.2.output,hHeld.2.2.2.2.size,hHeld.2.2.2.2.block⟩ | exact Fr.alloc hHeld.2.2.2.2 _ | exact Fr.grown hHeld.2.2.2.2 hgrow (fun g h _=>.inr h) | exact Fr.setCell hHeld.2.2.2.2 (p:=⟨R,o + 3,none⟩) (.inl rfl) _)
     clear hK K hHeld
     have hHeld:=hHeld2
     clear hHeld2
     try simp only [Act.put,List.setIfInBounds_toArray,List.set]
     refine wtk (i:=16) ?_
     try simp only [Act.put,List.setIfInBounds_toArray,List.set]
     refine wpAnyH_ready (rs:=[4,17]) (by kernel_rfl) (by simp) ?_
     refine arc (fun K hK=>?_) ?_
     ·skip
      as_aux_lemma =>
      go_simp
      refine hK.out _ _ ?hS34 (fun hHeld2=>?hr34)
      case hS34=>(try dsimp only);exact HQ.out _ (by first | exact (Fr.refl _ _).drew | exact hHeld.2.2.2.2 | exact hHeld.2.2.2.2.drew | exact ⟨hHeld.2.2.2.2.os,hHeld.2.2.2.2.tape,hHeld.2.2.2.2.output,hHeld.2.2.2.2.size,hHeld.2.2.2.2.block⟩ | exact Fr.alloc hHeld.2.2.2.2 _ | exact Fr.grown hHeld.2.2.2.2 hgrow (fun g h _=>.inr h) | exact Fr.setCell hHeld.2.2.2.2 (p:=⟨R,o + 3,none⟩) (.inl rfl) _)
      clear hK K hHeld
      have hHeld:=hHeld2
      clear hHeld2
      try simp only [Act.put,List.setIfInBounds_toArray,List.set]
      refine wpAnyH_ready (rs:=[17]) (by kernel_rfl) (by simp) ?_
      refine arc (fun K hK=>?_) ?_
      ·skip
       as_aux_lemma =>
       go_simp
       refine hK.out _ _ ?hS35 (fun hHeld2=>?hr35)
       case hS35=>(try dsimp only);exact HQ.out _ (by first | exact (Fr.refl _ _).drew | exact hHeld.2.2.2.2 | exact hHeld.2.2.2.2.drew | exact ⟨hHeld.2.2.2.2.os,hHeld.2.2.2.2.tape,hHeld.2.2.2.2.output,hHeld.2.2.2.2.size,hHeld.2.2.2.2.block⟩ | exact Fr.alloc hHeld.2.2.2.2 _ | exact Fr.grown hHeld.2.2.2.2 hgrow (fun g h _=>.inr h) | exact Fr.setCell hHeld.2.2.2.2 (p:=⟨R,o + 3,none⟩) (.inl rfl) _)
       clear hK K hHeld
       have hHeld:=hHeld2
       clear hHeld2
       try simp only [Act.put,List.setIfInBounds_toArray,List.set]
       refine wpAnyH_ready (rs:=[18]) (by kernel_rfl) (by simp) ?_
       refine arc (fun K hK=>?_) ?_
       ·skip
        as_aux_lemma =>
        refine step_append_lies _ (by rfl) _ _ _ (by rfl) w.heap.size 4 i0 _ 1 1 Tryz.underlying42 ki kz0 kz1 kz2 rfl (by omega) _ _ _ (by rfl) (own_fr HO.out (by repeat (first | exact Fr.refl _ _ | refine Fr.alloc ?_ _ | refine Fr.drew ?_ | refine Fr.drewN ?_ _ | refine Fr.drewN ?_ _))) ⟨wr.heap.size,0,none⟩ 1 1 [.bool (decide (r1 > r2))] (by rfl) (by rfl) (fun j u hu=>by first | exact cell_new _ _ _ j u hu | (rw [World.cell?_drew];exact cell_new _ _ _ j u hu)) (by simp [Value.oneCell']) (by omega) (by unfold maxLen;omega) (by omega) (by simp;omega) (wr.heap.size + 1) (by simp) ?_;intro gg cap2 w6 hown6 hgrow hat hlt6;have f6:Fr (fun q=>(Value.slice a9 n c9).ownBlock = some q) wr w6:=Fr.grown (by repeat (first | exact Fr.refl _ _ | refine Fr.alloc ?_ _ | refine Fr.drew ?_ | refine Fr.drewN ?_ _ | refine Fr.drewN ?_ _)) hgrow (fun g h _=>h);have c6:=(f6.cell (p:=⟨R,o + 3,none⟩) hRr HRO.out).trans hso;have z6:=(f6.frozen (p:=⟨R,o + 3,none⟩) hRr HRO.out).trans zl;try simp only [Act.put,List.setIfInBounds_toArray,List.set]
        refine hK.out _ _ ?hS36 (fun hHeld2=>?hr36)
        case hS36=>(try dsimp only);exact HQ.out _ (by first | exact (Fr.refl _ _).drew | exact hHeld.2.2.2.2 | exact hHeld.2.2.2.2.drew | exact ⟨hHeld.2.2.2.2.os,hHeld.2.2.2.2.tape,hHeld.2.2.2.2.output,hHeld.2.2.2.2.size,hHeld.2.2.2.2.block⟩ | exact Fr.alloc hHeld.2.2.2.2 _ | exact Fr.grown hHeld.2.2.2.2 hgrow (fun g h _=>.inr h) | exact Fr.setCell hHeld.2.2.2.2 (p:=⟨R,o + 3,none⟩) (.inl rfl) _)
        clear hK K hHeld
        have hHeld:=hHeld2
        clear hHeld2
        try simp only [Act.put,List.setIfInBounds_toArray,List.set]
        refine wtk (i:=19) ?_
        try simp only [Act.put,List.setIfInBounds_toArray,List.set]
        refine wtk (i:=20) ?_
        try simp only [Act.put,List.setIfInBounds_toArray,List.set]
        refine wpAnyH_ready (rs:=[21]) (by kernel_rfl) (by simp) ?_
        refine arc (fun K hK=>?_) ?_
        ·skip
         as_aux_lemma =>
         go_simp
         refine hK.out _ _ ?hS39 (fun hHeld2=>?hr39)
         case hS39=>(try dsimp only);exact HQ.out _ (by first | exact (Fr.refl _ _).drew | exact hHeld.2.2.2.2 | exact hHeld.2.2.2.2.drew | exact ⟨hHeld.2.2.2.2.os,hHeld.2.2.2.2.tape,hHeld.2.2.2.2.output,hHeld.2.2.2.2.size,hHeld.2.2.2.2.block⟩ | exact Fr.alloc hHeld.2.2.2.2 _ | exact Fr.grown hHeld.2.2.2.2 hgrow (fun g h _=>.inr h) | exact Fr.setCell hHeld.2.2.2.2 (p:=⟨R,o + 3,none⟩) (.inl rfl) _)
         clear hK K hHeld
         have hHeld:=hHeld2
         clear hHeld2
         try simp only [Act.put,List.setIfInBounds_toArray,List.set]
         refine wpAnyH_done (by kernel_rfl) ?_ _
         have f7:=HEND.out w6 gg cap2 f6 hown6
         clear hHeld hown6 hgrow f6 c6 z6 hsoA hsoB hat
         go_wp2_with fail
         go_roundw
         case rel=>exact ⟨n + 1,by omega,by simp,f7⟩
         case measure=>simp [intOf];omega
        exact AllReadyH.nil
       exact AllReadyH.nil
      exact AllReadyH.nil
     refine arc (fun K hK=>?_) ?_
     ·skip
      as_aux_lemma =>
      go_simp
      refine hK.out _ _ ?hS40 (fun hHeld2=>?hr40)
      case hS40=>(try dsimp only);exact HQ.out _ (by first | exact (Fr.refl _ _).drew | exact hHeld.2.2.2.2 | exact hHeld.2.2.2.2.drew | exact ⟨hHeld.2.2.2.2.os,hHeld.2.2.2.2.tape,hHeld.2.2.2.2.output,hHeld.2.2.2.2.size,hHeld.2.2.2.2.block⟩ | exact Fr.alloc hHeld.2.2.2.2 _ | exact Fr.grown hHeld.2.2.2.2 hgrow (fun g h _=>.inr h) | exact Fr.setCell hHeld.2.2.2.2 (p:=⟨R,o + 3,none⟩) (.inl rfl) _)
      clear hK K hHeld
      have hHeld:=hHeld2
      clear hHeld2
      try simp only [Act.put,List.setIfInBounds_toArray,List.set]
      refine wpAnyH_ready (rs:=[4]) (by kernel_rfl) (by simp) ?_
      refine arc (fun K hK=>?_) ?_
      ·skip
       as_aux_lemma =>
       go_simp
       refine hK.out _ _ ?hS41 (fun hHeld2=>?hr41)
       case hS41=>(try dsimp only);exact HQ.out _ (by first | exact (Fr.refl _ _).drew | exact hHeld.2.2.2.2 | exact hHeld.2.2.2.2.drew | exact ⟨hHeld.2.2.2.2.os,hHeld.2.2.2.2.tape,hHeld.2.2.2.2.output,hHeld.2.2.2.2.size,hHeld.2.2.2.2.block⟩ | exact Fr.alloc hHeld.2.2.2.2 _ | exact Fr.grown hHeld.2.2.2.2 hgrow (fun g h _=>.inr h) | exact Fr.setCell hHeld.2.2.2.2 (p:=⟨R,o + 3,none⟩) (.inl rfl) _)
       clear hK K hHeld
       have hHeld:=hHeld2
       clear hHeld2
       try simp only [Act.put,List.setIfInBounds_toArray,List.set]
       refine wpAnyH_ready (rs:=[18]) (by kernel_rfl) (by simp) ?_
       refine arc (fun K hK=>?_) ?_
       ·skip
        as_aux_lemma =>
        refine step_append_lies _ (by rfl) _ _ _ (by rfl) w.heap.size 4 i0 _ 1 1 Tryz.underlying42 ki kz0 kz1 kz2 rfl (by omega) _ _ _ (by rfl) (own_fr HO.out (by repeat (first | exact Fr.refl _ _ | refine Fr.alloc ?_ _ | refine Fr.drew ?_ | refine Fr.drewN ?_ _ | refine Fr.drewN ?_ _))) ⟨wr.heap.size,0,none⟩ 1 1 [.bool (decide (r1 > r2))] (by rfl) (by rfl) (fun j u hu=>by first | exact cell_new _ _ _ j u hu | (rw [World.cell?_drew];exact cell_new _ _ _ j u hu)) (by simp [Value.oneCell']) (by omega) (by unfold maxLen;omega) (by omega) (by simp;omega) (wr.heap.size + 1) (by simp) ?_;intro gg cap2 w6 hown6 hgrow hat hlt6;have f6:Fr (fun q=>(Value.slice a9 n c9).ownBlock = some q) wr w6:=Fr.grown (by repeat (first | exact Fr.refl _ _ | refine Fr.alloc ?_ _ | refine Fr.drew ?_ | refine Fr.drewN ?_ _ | refine Fr.drewN ?_ _)) hgrow (fun g h _=>h);have c6:=(f6.cell (p:=⟨R,o + 3,none⟩) hRr HRO.out).trans hso;have z6:=(f6.frozen (p:=⟨R,o + 3,none⟩) hRr HRO.out).trans zl;try simp only [Act.put,List.setIfInBounds_toArray,List.set]
        refine hK.out _ _ ?hS42 (fun hHeld2=>?hr42)
        case hS42=>(try dsimp only);exact HQ.out _ (by first | exact (Fr.refl _ _).drew | exact hHeld.2.2.2.2 | exact hHeld.2.2.2.2.drew | exact ⟨hHeld.2.2.2.2.os,hHeld.2.2.2.2.tape,hHeld.2.2.2.2.output,hHeld.2.2.2.2.size,hHeld.2.2.2.2.block⟩ | exact Fr.alloc hHeld.2.2.2.2 _ | exact Fr.grown hHeld.2.2.2.2 hgrow (fun g h _=>.inr h) | exact Fr.setCell hHeld.2.2.2.2 (p:=⟨R,o + 3,none⟩) (.inl rfl) _)
        clear hK K hHeld
        have hHeld:=hHeld2
        clear hHeld2
        try simp only [Act.put,List.setIfInBounds_toArray,List.set]
        refine wtk (i:=19) ?_
        try simp only [Act.put,List.setIfInBounds_toArray,List.set]
        refine wtk (i:=20) ?_
        try simp only [Act.put,List.setIfInBounds_toArray,List.set]
        refine wpAnyH_ready (rs:=[21]) (by kernel_rfl) (by simp) ?_
        refine arc (fun K hK=>?_) ?_
        ·skip
         as_aux_lemma =>
         go_simp
         refine hK.out _ _ ?hS45 (fun hHeld2=>?hr45)
         case hS45=>(try dsimp only);exact HQ.out _ (by first | exact (Fr.refl _ _).drew | exact hHeld.2.2.2.2 | exact hHeld.2.2.2.2.drew | exact ⟨hHeld.2.2.2.2.os,hHeld.2.2.2.2.tape,hHeld.2.2.2.2.output,hHeld.2.2.2.2.size,hHeld.2.2.2.2.block⟩ | exact Fr.alloc hHeld.2.2.2.2 _ | exact Fr.grown hHeld.2.2.2.2 hgrow (fun g h _=>.inr h) | exact Fr.setCell hHeld.2.2.2.2 (p:=⟨R,o + 3,none⟩) (.inl rfl) _)
         clear hK K hHeld
         have hHeld:=hHeld2
         clear hHeld2
         try simp only [Act.put,List.setIfInBounds_toArray,List.set]
         refine wpAnyH_done (by kernel_rfl) ?_ _
         have f7:=HEND.out w6 gg cap2 f6 hown6
         clear hHeld hown6 hgrow f6 c6 z6 hsoA hsoB hat
         go_wp2_with fail
         go_roundw
         case rel=>exact ⟨n + 1,by omega,by simp,f7⟩
         case measure=>simp [intOf];omega
        exact AllReadyH.nil
       exact AllReadyH.nil
      exact AllReadyH.nil
     exact AllReadyH.nil
    exact AllReadyH.nil
   exact AllReadyH.nil
  ·have hdl:decide ((n:Int) < k) = false:=decide_eq_false hlt
   have hnk:n = k.toNat:=by omega
   obtain ⟨a9,c9,rfl⟩:=ownsRow_form HO.out
   go_wp2_with fail
   go_end0
   refine ⟨rfl,hf,hd',hu',hz',?_⟩
   subst hnk
   exact ⟨a9,⟨c9,hso⟩,xs,bools_of_own HO.out hxl⟩
end
end Go.Proofs.YtnoahekcemfmcaaGreatDoor
