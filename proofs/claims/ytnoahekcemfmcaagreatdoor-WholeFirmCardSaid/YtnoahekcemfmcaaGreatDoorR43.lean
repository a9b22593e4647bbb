/- A part of the walk: Ba Bb Bc Lb. -/
import Derived.Test.YtnoahekcemfmcaaGreatDoorR33
import Derived.Test.YtnoahekcemfmcaaGreatDoorR42
import Derived.Test.YtnoahekcemfmcaaGreatDoorR36
import Derived.Lib.QuietBelow
namespace Go.Proofs.YtnoahekcemfmcaaGreatDoor
set_option linter.unusedVariables false
set_option linter.unusedSimpArgs false
set_option maxHeartbeats 80000000
set_option maxRecDepth 100000
section
open Go.RowKit
def hitOf (l:List (List (Int × Int) × Bool)) (t:Nat):Bool:=match l[t]? with | some x=>x.2 | none=>false
theorem faultsL_len (σ:Nat → Bool) (k:Nat):(faultsL σ k).length ≤ k:=by
 induction k with
 | zero=>exact Nat.le_refl _
 | succ k ih =>
  unfold faultsL
  split
  ·rw [List.length_append];simp;omega
  ·omega
theorem faults_any (B:Nat) (a:Option Addr) (c:Nat) (l:List (List (Int × Int) × Bool)) (w:World) (hx:InsIn B w a l) (hB:B ≤ w.heap.size) (hn:l.length ≤ 100000) :
  Calls Tryz.prog 45 #[.slice a l.length c] w fun e w'=>∃ v,e = .returned v ∧ w'.ownsRow w.heap.size 3 1 v (faultsL (hitOf l) l.length).length (intsV (faultsL (hitOf l) l.length)) ∧ Below w.heap.size w w':=by
 have HX:=Lib.hid hx
 have hnI:(l.length:Int) ≤ 100000:=by omega
 obtain ⟨i3,ki3,kz31,kz32,kz33⟩:=info_parts Tryz.info3
 clear hx
 go_enter Tryz.func45,Tryz.ntmps45
 go_wp2_with fail
 go_loopw [8,3,4,5] (fun ix s3 s4 s5 wx=>∃ k:Nat,k ≤ l.length ∧ ix = .int .i64 k ∧ Hid (wx.ownsRow w.heap.size 3 1 s3 (faultsL (hitOf l) k).length (intsV (faultsL (hitOf l) k))) ∧ Hid (Below w.heap.size w wx)) (fun ix _ _ _ _=>l.length - (intOf ix).toNat)
 case atStart=>exact ⟨0,Nat.zero_le _,rfl,World.ownsRow_nil _ _ _ _,Below.refl _ _⟩
 case round =>
  obtain ⟨k,hk,rfl,HO,HB⟩:=hrel
  obtain ⟨a3,c3,h3⟩:=ownsRow_form HO.out
  subst h3
  by_cases hlt:k < l.length
  ·have hkI:(k:Int) < (l.length:Int):=by omega
   have hk0:(0:Int) ≤ (k:Int):=by omega
   have hdl:decide ((k:Int) < (l.length:Int)) = true:=decide_eq_true hkI
   obtain ⟨b,off,rfl,hbB,hcs⟩:=(HX.out.keep hB (Fr.of_below (S:=fun _=>False) HB.out) (fun _ _ t=>t)) (by omega)
   obtain ⟨aj,cj,c0,c1,c2⟩:=hcs k hlt
   obtain ⟨x1,hx1⟩:∃ x1,l[k].1.length = x1:=⟨_,rfl⟩
   obtain ⟨x2,hx2⟩:∃ x2,l[k].2 = x2:=⟨_,rfl⟩
   rw [hx1] at c0
   rw [hx2] at c1
   have hhit:hitOf l k = x2:=by unfold hitOf;rw [List.getElem?_eq_getElem hlt];exact hx2
   have hfl:=faultsL_len (hitOf l) k
   have hbb:=bel_alloc (Below.refl wr.heap.size wr) (.cells #[.slice aj x1 cj,.bool x2] 55)
   have HBB:=Lib.hid (HB.out.trans (hbb.mono HB.out.size))
   have HO2:=Lib.hid (own_fr2 HO.out (Fr.of_below (S:=fun _=>False) hbb) (fun _ _ t=>t))
   have HF1:Hid (x2 = true → faultsL (hitOf l) (k + 1) = faultsL (hitOf l) k ++ [(k:Int)]):=fun e=>by show (if hitOf l k = true then _ else _) = _;rw [if_pos (by rw [hhit];exact e)]
   have HF2:Hid (x2 = false → faultsL (hitOf l) (k + 1) = faultsL (hitOf l) k):=fun e=>by show (if hitOf l k = true then _ else _) = _;rw [if_neg (by rw [hhit,e];simp)]
   have hws:=HB.out.size
   clear hcs c2 hx1 hx2 hhit hbb HO
   cases x2
   ·have HE:=Lib.hid (HF2.out rfl)
    clear HF1 HF2
    go_wp2_with fail
    go_roundw
    case rel=>exact ⟨k + 1,by omega,by simp,by rw [HE.out];exact HO2,HBB⟩
    case measure=>simp [intOf];omega
   ·have HE:=Lib.hid (HF1.out rfl)
    clear HF1 HF2
    go_wp2_with (at_builtin;refine wpList_append_row rfl _ _ 28 rfl w.heap.size 3 i3 _ 1 8 Tryz.underlying28 ki3 kz31 kz32 kz33 rfl (by omega) _ (faultsL (hitOf l) k).length (intsV (faultsL (hitOf l) k)) rfl (own_fr2 HO2.out (Fr.of_below (S:=fun _=>False) (bel_alloc (Below.refl _ _) _)) (fun _ _ t=>t)) (.slice (some ⟨wr.heap.size + 1,0,none⟩) 1 1) 1 [.int .i64 k] rfl rfl (.inr ⟨⟨wr.heap.size + 1,0,none⟩,1,rfl,fun j u hu=>by obtain ⟨rfl,rfl⟩:=one_of hu;rw [add_none];exact cell_newb _ _ _ _ 0 _ (by simp) rfl⟩) (by simp [Value.oneCell']) (by unfold maxLen;omega) (by omega) (by simp;omega) ?_;intro v7 w7 own7 gr7 at7)
    have HN:Hid (w7.ownsRow w.heap.size 3 1 v7 (faultsL (hitOf l) (k + 1)).length (intsV (faultsL (hitOf l) (k + 1)))):=by
     rw [HE.out]
     have e1:intsV (faultsL (hitOf l) k ++ [(k:Int)]) = intsV (faultsL (hitOf l) k) ++ [.int .i64 k]:=by simp [intsV]
     have e2:(faultsL (hitOf l) k ++ [(k:Int)]).length = (faultsL (hitOf l) k).length + 1:=by simp
     rw [e1,e2]
     exact own7
    have HB7:Hid (Below w.heap.size w w7):=by
     have h1:Below w.heap.size w ((wr.alloc (.cells #[.slice aj x1 cj,.bool true] 55)).alloc (.cells #[.int .i64 k] 3)):=HBB.out.trans ((bel_alloc (Below.refl _ _) _).mono HBB.out.size)
     exact Below.grown h1 gr7 (by simp;omega) (fun q e=>ownsRow_block HO2.out q e)
    clear own7 gr7 at7
    go_roundw
    case rel=>exact ⟨k + 1,by omega,by simp,HN,HB7⟩
    case measure=>simp [intOf];omega
  ·have hkn:k = l.length:=by omega
   subst hkn
   have hdl:decide ((l.length:Int) < (l.length:Int)) = false:=decide_eq_false (by omega)
   go_wp2_with fail
   go_ret
   exact ⟨_,rfl,HO.out,HB.out⟩
end
section
open Go.RowKit
theorem starts_take (b:Int) (xs:List Int) (k:Nat) (h:k < xs.length):startsL b (xs.take (k + 1)) = startStep b (startsL b (xs.take k)) xs[k]:=by
 unfold startsL
 rw [take_more xs k h,List.foldl_append]
 rfl
theorem startStep_len (b:Int) (o:List Int) (x:Int):(startStep b o x).length ≤ o.length + 1:=by
 unfold startStep
 split
 ·simp
 ·split
  ·simp
  ·omega
theorem starts_len (b:Int) (xs:List Int) (k:Nat):(startsL b (xs.take k)).length ≤ k:=by
 induction k with
 | zero=>simp [startsL]
 | succ k ih =>
  by_cases h:k < xs.length
  ·rw [starts_take b xs k h]
   have:=startStep_len b (startsL b (xs.take k)) xs[k]
   omega
  ·rw [List.take_of_length_le (by omega)]
   rw [List.take_of_length_le (by omega)] at ih
   omega
theorem startStep_mem (b:Int) (o:List Int) (x y:Int) (h:y ∈ startStep b o x):y ∈ o ∨ y = x:=by
 unfold startStep at h
 split at h
 ·simpa using h
 ·split at h
  ·simpa using h
  ·exact .inl h
theorem starts_mem (b:Int) (xs:List Int) (k:Nat):∀ y ∈ startsL b (xs.take k),y ∈ xs:=by
 induction k with
 | zero=>intro y hy;simp [startsL] at hy
 | succ k ih =>
  intro y hy
  by_cases h:k < xs.length
  ·rw [starts_take b xs k h] at hy
   rcases startStep_mem _ _ _ _ hy with h1 | h1
   ·exact ih y h1
   ·rw [h1];exact List.getElem_mem _
  ·rw [List.take_of_length_le (by omega)] at hy
   rw [List.take_of_length_le (by omega)] at ih
   exact ih y hy
theorem starts_any (B:Nat) (a:Option Addr) (n c:Nat) (xs:List Int) (b:Int) (w:World) (hx:IntsIn B w a n xs) (hB:B ≤ w.heap.size) (hn:n ≤ 100000) (hxs:∀ x ∈ xs,0 ≤ x ∧ x ≤ 1000000) (hb:1 ≤ b) (hb2:b ≤ 1000) :
  Calls Tryz.prog 108 #[.slice a n c,.int .i64 b] w fun e w'=>∃ v,e = .returned v ∧ w'.ownsRow w.heap.size 3 1 v (startsL b xs).length (intsV (startsL b xs)) ∧ Below w.heap.size w w':=by
 obtain ⟨hlen,hx⟩:=hx
 have HX:=Lib.hid hx
 have HXS:=Lib.hid hxs
 have hnI:(n:Int) ≤ 100000:=by omega
 obtain ⟨i3,ki3,kz31,kz32,kz33⟩:=info_parts Tryz.info3
 clear hx hxs
 go_enter Tryz.func108,Tryz.ntmps108
 go_wp2_with fail
 go_loopw [11,5,7,8] (fun ix s5 s7 s8 wx=>∃ k:Nat,k ≤ n ∧ ix = .int .i64 k ∧ Hid (wx.ownsRow w.heap.size 3 1 s5 (startsL b (xs.take k)).length (intsV (startsL b (xs.take k)))) ∧ Hid (Below w.heap.size w wx)) (fun ix _ _ _ _=>n - (intOf ix).toNat)
 case atStart=>exact ⟨0,Nat.zero_le _,rfl,World.ownsRow_nil _ _ _ _,Below.refl _ _⟩
 case round =>
  obtain ⟨k,hk,rfl,HO,HB⟩:=hrel
  by_cases hlt:k < n
  ·have hkI:(k:Int) < (n:Int):=by omega
   have hk0:(0:Int) ≤ (k:Int):=by omega
   have hdl:decide ((k:Int) < (n:Int)) = true:=decide_eq_true hkI
   obtain ⟨bx,off,rfl,hbB,hc⟩:=HX.out (by omega)
   have hck:=cell_bel HB.out (hc k (by omega))
   have hst:=starts_take b xs k (by omega)
   have hfl:=starts_len b xs k
   have hxk:=HXS.out xs[k] (List.getElem_mem _)
   have HMB:Hid (∀ y ∈ startsL b (xs.take k),0 ≤ y ∧ y ≤ 1000000):=fun y hy=>HXS.out y (starts_mem b xs k y hy)
   obtain ⟨x,hxe⟩:∃ x,xs[k] = x:=⟨_,rfl⟩
   rw [hxe] at hck hst hxk
   obtain ⟨F,hF⟩:∃ F,startsL b (xs.take k) = F:=⟨_,rfl⟩
   have HO2:=Lib.hid HO.out
   rw [hF] at HO2 hst hfl HMB
   obtain ⟨a5,c5,h5⟩:=ownsRow_form HO2.out
   subst h5
   have hws:=HB.out.size
   have HST:=Lib.hid hst
   clear hc hst hxe hF HO
   by_cases h0:F.length = 0
   ·have hF0:F = []:=List.eq_nil_of_length_eq_zero h0
    subst hF0
    have HE:Hid (startsL b (xs.take (k + 1)) = [] ++ [x]):=by show _ = _;rw [HST.out];rfl
    clear HST h0
    go_wp2_with (at_builtin;refine wpList_append_row rfl _ _ 28 rfl w.heap.size 3 i3 _ 1 8 Tryz.underlying28 ki3 kz31 kz32 kz33 rfl (by omega) _ ([]:List Int).length (intsV ([]:List Int)) rfl (own_fr2 HO2.out (Fr.of_below (S:=fun _=>False) (bel_alloc (Below.refl _ _) _)) (fun _ _ t=>t)) (.slice (some ⟨wr.heap.size,0,none⟩) 1 1) 1 [.int .i64 x] rfl rfl (.inr ⟨⟨wr.heap.size,0,none⟩,1,rfl,fun j u hu=>by obtain ⟨rfl,rfl⟩:=one_of hu;rw [add_none];exact cell_newb _ _ _ _ 0 _ (by simp) rfl⟩) (by simp [Value.oneCell']) (by unfold maxLen;first | omega | decide) (by first | omega | decide) (by simp;omega) ?_;intro v7 w7 own7 gr7 at7)
    have HN:Hid (w7.ownsRow w.heap.size 3 1 v7 (startsL b (xs.take (k + 1))).length (intsV (startsL b (xs.take (k + 1))))):=by
     rw [HE.out]
     have e1:intsV (([]:List Int) ++ [x]) = intsV ([]:List Int) ++ [.int .i64 x]:=by simp [intsV]
     have e2:(([]:List Int) ++ [x]).length = ([]:List Int).length + 1:=by simp
     rw [e1,e2]
     exact own7
    have HB7:Hid (Below w.heap.size w w7):=by
     have h1:Below w.heap.size w (wr.alloc (.cells #[.int .i64 x] 3)):=HB.out.trans ((bel_alloc (Below.refl _ _) _).mono HB.out.size)
     exact Below.grown h1 gr7 (by simp;omega) (fun q e=>ownsRow_block HO2.out q e)
    clear own7 gr7 at7
    go_roundw
    case rel=>exact ⟨k + 1,by omega,by simp,HN,HB7⟩
    case measure=>simp [intOf];omega
   ·have hfpos:0 < F.length:=by omega
    obtain ⟨y,hy⟩:∃ y,F.getLast? = some y:=⟨_,List.getLast?_eq_some_getLast (by intro e;rw [e] at h0;simp at h0)⟩
    have hy2:F[F.length - 1]? = some y:=by rw [← List.getLast?_eq_getElem?];exact hy
    have hyb:=HMB.out y (List.mem_of_getElem? hy2)
    obtain ⟨g5,cap5,hv5,_,hg5,_,hcell5,_⟩:=ownsRow_cells HO2.out hfpos
    simp only [Value.slice.injEq,true_and] at hv5
    obtain ⟨rfl,rfl⟩:=hv5
    have hcy:=hcell5 (F.length - 1) (.int .i64 y) (by unfold intsV;rw [List.getElem?_map,hy2];rfl)
    have hnz:((F.length:Int) == 0) = false:=beq_eq_false_iff_ne.2 (by omega)
    have hFI:(F.length:Int) ≤ 100000:=by omega
    have hF1:((F.length - 1:Nat):Int) = (F.length:Int) - 1:=by omega
    have HMA:=Lib.hid HST.out
    unfold startStep at HMA
    rw [hy] at HMA
    by_cases hge:b ≤ x - y
    ·have HE:Hid (startsL b (xs.take (k + 1)) = F ++ [x]):=by
      show _ = _
      rw [HMA.out]
      show (if b ≤ x - y then _ else _) = _
      rw [if_pos hge]
     have hgd:decide (x - y ≥ b) = true:=decide_eq_true hge
     clear HST HMA hge hy hy2 hcell5 hF1
     go_wp2_with (at_builtin;refine wpList_append_row rfl _ _ 28 rfl w.heap.size 3 i3 _ 1 8 Tryz.underlying28 ki3 kz31 kz32 kz33 rfl (by omega) _ F.length (intsV F) rfl (own_fr2 HO2.out (Fr.of_below (S:=fun _=>False) (bel_alloc (Below.refl _ _) _)) (fun _ _ t=>t)) (.slice (some ⟨wr.heap.size,0,none⟩) 1 1) 1 [.int .i64 x] rfl rfl (.inr ⟨⟨wr.heap.size,0,none⟩,1,rfl,fun j u hu=>by obtain ⟨rfl,rfl⟩:=one_of hu;rw [add_none];exact cell_newb _ _ _ _ 0 _ (by simp) rfl⟩) (by simp [Value.oneCell']) (by unfold maxLen;first | omega | decide) (by first | omega | decide) (by simp;omega) ?_;intro v7 w7 own7 gr7 at7)
     have HN:Hid (w7.ownsRow w.heap.size 3 1 v7 (startsL b (xs.take (k + 1))).length (intsV (startsL b (xs.take (k + 1))))):=by
      rw [HE.out]
      have e1:intsV (F ++ [x]) = intsV F ++ [.int .i64 x]:=by simp [intsV]
      have e2:(F ++ [x]).length = F.length + 1:=by simp
      rw [e1,e2]
      exact own7
     have HB7:Hid (Below w.heap.size w w7):=by
      have h1:Below w.heap.size w (wr.alloc (.cells #[.int .i64 x] 3)):=HB.out.trans ((bel_alloc (Below.refl _ _) _).mono HB.out.size)
      exact Below.grown h1 gr7 (by simp;omega) (fun q e=>ownsRow_block HO2.out q e)
     clear own7 gr7 at7
     go_roundw
     case rel=>exact ⟨k + 1,by omega,by simp,HN,HB7⟩
     case measure=>simp [intOf];omega
    ·have HE:Hid (startsL b (xs.take (k + 1)) = F):=by
      show _ = _
      rw [HMA.out]
      show (if b ≤ x - y then _ else _) = _
      rw [if_neg hge]
     have hgd:decide (x - y ≥ b) = false:=decide_eq_false hge
     clear HST HMA hge hy hy2 hcell5 hF1
     go_wp2_with fail
     go_roundw
     case rel=>exact ⟨k + 1,by omega,by simp,by rw [HE.out];exact HO2,HB⟩
     case measure=>simp [intOf];omega
  ·have hkn:k = n:=by omega
   subst hkn
   have hdl:decide ((k:Int) < (k:Int)) = false:=decide_eq_false (by omega)
   have HO2:=HO.out
   rw [List.take_of_length_le (by omega)] at HO2
   have HO3:=Lib.hid HO2
   clear HO2
   go_wp2_with fail
   go_ret
   exact ⟨_,rfl,HO3.out,HB.out⟩
end
section
open Go.RowKit
theorem gap_any (B:Nat) (a:Option Addr) (n c:Nat) (xs:List Int) (b:Int) (w:World) (hx:IntsIn B w a n xs) (hB:B ≤ w.heap.size) (hn:n ≤ 100000) (hxs:∀ x ∈ xs,0 ≤ x ∧ x ≤ 1000000) (hb:1 ≤ b) (hb2:b ≤ 1000) :
  Calls Tryz.prog 76 #[.slice a n c,.int .i64 b] w fun e w'=>e = .returned (.int .i64 (gapL b xs)) ∧ Below w.heap.size w w':=by
 have HS:=Lib.hid (starts_any B a n c xs b w hx hB hn hxs hb hb2)
 have hlen:=hx.1
 have hsl:=starts_len b xs n
 rw [List.take_of_length_le (by omega)] at hsl
 have HMB:Hid (∀ y ∈ startsL b xs,0 ≤ y ∧ y ≤ 1000000):=fun y hy=>hxs y (by
  have:=starts_mem b xs xs.length y
  rw [List.take_length] at this
  exact this hy)
 unfold gapL
 obtain ⟨S,hS⟩:∃ S,startsL b xs = S:=⟨_,rfl⟩
 rw [hS] at HS hsl HMB ⊢
 clear hx hxs hS hlen
 have hSI:(S.length:Int) ≤ 100000:=by omega
 go_enter Tryz.func76,Tryz.ntmps76
 go_wp2_with (go_at_call 108;refine HS.out.mono ?_;rintro e w2 ⟨v,rfl,hown,hq2⟩;obtain ⟨av,cv,hv⟩:=ownsRow_form hown;subst hv;have HO:=Lib.hid hown;have HQ:=Lib.hid hq2;clear HS hown hq2)
 go_loopw [14,5,7] (fun ix s5 s7 wx=>∃ k:Nat,(k ≤ S.length - 1) ∧ ix = .int .i64 k ∧ s5 = .int .i64 (gapTo S k) ∧ Hid (gapTo S k ≤ 1049576 ∧ -1000000 ≤ gapTo S k) ∧ Hid (Below w2.heap.size w2 wx)) (fun ix _ _ _=>S.length - (intOf ix).toNat)
 case atStart=>exact ⟨0,Nat.zero_le _,rfl,rfl,⟨by show (1049576:Int) ≤ _;omega,by show _ ≤ (1049576:Int);omega⟩,Below.refl _ _⟩
 case round =>
  obtain ⟨k,hk,rfl,rfl,HG,HB⟩:=hrel
  by_cases hlt:k + 1 < S.length
  ·have hkI:(k:Int) < (S.length:Int) - 1:=by omega
   have hk0:(0:Int) ≤ (k:Int):=by omega
   have hk1I:(k:Int) + 1 < (S.length:Int):=by omega
   have hk2I:(k:Int) < (S.length:Int):=by omega
   have hdl:decide ((k:Int) < (S.length:Int) - 1) = true:=decide_eq_true hkI
   obtain ⟨g5,cap5,hv5,_,hg5,_,hcell5,_⟩:=ownsRow_cells HO.out (by omega)
   simp only [Value.slice.injEq,true_and] at hv5
   obtain ⟨rfl,rfl⟩:=hv5
   have hc0:=cell_bel HB.out (hcell5 k (.int .i64 S[k]) (by unfold intsV;rw [List.getElem?_map,List.getElem?_eq_getElem (by omega)];rfl))
   have hc1:=cell_bel HB.out (hcell5 (k + 1) (.int .i64 S[k + 1]) (by unfold intsV;rw [List.getElem?_map,List.getElem?_eq_getElem (by omega)];rfl))
   have hb0:=HMB.out S[k] (List.getElem_mem _)
   have hb1:=HMB.out S[k + 1] (List.getElem_mem _)
   have HST:Hid (gapTo S (k + 1) = min (gapTo S k) (S[k + 1] - S[k])):=by
    show min (gapTo S k) (S.getD (k + 1) 0 - S.getD k 0) = _
    have g1:S.getD (k + 1) 0 = S[k + 1]:=by simp [List.getD_eq_getElem?_getD,hlt]
    have g2:S.getD k 0 = S[k]:=by simp [List.getD_eq_getElem?_getD,show k < S.length by omega]
    rw [g1,g2]
   obtain ⟨x,hxe⟩:∃ x,S[k] = x:=⟨_,rfl⟩
   obtain ⟨y,hye⟩:∃ y,S[k + 1] = y:=⟨_,rfl⟩
   rw [hxe] at hc0 hb0 HST
   rw [hye] at hc1 hb1 HST
   obtain ⟨G,hG⟩:∃ G,gapTo S k = G:=⟨_,rfl⟩
   rw [hG] at HST HG ⊢
   have hgb:=HG.out
   have hbl:g5 < wr.heap.size:=block_lt hc0
   have HG1:Hid (gapTo S (k + 1) ≤ 1049576 ∧ -1000000 ≤ gapTo S (k + 1)):=by show _ ∧ _;rw [HST.out];omega
   clear hxe hye hG hcell5 HG
   go_wp2_with fail
   go_quiet (fail)
   go_wp2_with fail
   go_roundw
   case rel=>exact ⟨k + 1,by omega,by simp,by rw [HST.out],HG1,HB.out.trans ((bel_drewN (Below.refl _ _) _).mono HB.out.size)⟩
   case measure=>simp [intOf];omega
  ·have hkn:k = S.length - 1:=by omega
   have hdl:decide ((k:Int) < (S.length:Int) - 1) = false:=decide_eq_false (by omega)
   rw [← hkn]
   go_wp2_with fail
   go_ret
   exact ⟨by rw [← hkn];rfl,HQ.out.trans (HB.out.mono HQ.out.size)⟩
theorem blegal_any (B:Nat) (a:Option Addr) (n c:Nat) (xs:List Int) (b g:Int) (w:World) (hx:IntsIn B w a n xs) (hB:B ≤ w.heap.size) (hn:n ≤ 100000) (hxs:∀ x ∈ xs,0 ≤ x ∧ x ≤ 1000000) (hb:1 ≤ b) (hb2:b ≤ 1000) :
  Calls Tryz.prog 44 #[.slice a n c,.int .i64 b,.int .i64 g] w fun e w'=>e = .returned (.bool (decide (g ≤ gapL b xs))) ∧ Below w.heap.size w w':=by
 have HG:=Lib.hid (gap_any B a n c xs b w hx hB hn hxs hb hb2)
 obtain ⟨G,hG⟩:∃ G,gapL b xs = G:=⟨_,rfl⟩
 rw [hG] at HG ⊢
 clear hx hxs hG
 go_enter Tryz.func44,Tryz.ntmps44
 go_wp2_with (go_at_call 76;refine HG.out.mono ?_;rintro e w2 ⟨rfl,hq2⟩;have HQ:=Lib.hid hq2;clear HG hq2)
 go_ret
 exact ⟨by rfl,HQ.out⟩
end
section
open Go.RowKit
structure RelOk (tk:Nat → Tk) (n:Nat) (l:List (List (Int × Int) × Bool)) (o:Nat → Nat → Nat → Int):Prop where
 z:∀ i,i < n → o 0 0 i = 0
 s:∀ k (h:k < l.length) j (hj:j < l[k].1.length),0 ≤ l[k].1[j].1 ∧ l[k].1[j].1 < n ∧ o k j l[k].1[j].1.toNat ≤ (k:Int) ∧ 1 ≤ l[k].1[j].2 ∧ l[k].1[j].2 ≤ (tk l[k].1[j].1.toNat).C ∧ ∀ i,i < n → o k (j + 1) i = upd (o k j) l[k].1[j].1.toNat ((k:Int) + (tk l[k].1[j].1.toNat).T) i
 n:∀ k (h:k < l.length) i,i < n → o (k + 1) 0 i = o k l[k].1.length i
structure OpW (B n:Nat) (w:World) (b:Nat) (f:Nat → Int):Prop where
 c:∀ i,i < n → w.cell? ⟨b,i,none⟩ = some (.int .i64 (f i))
 z:∀ o,w.frozen? ⟨b,o,none⟩ = false
 b1:B ≤ b
 b2:b < w.heap.size
theorem OpW.below {B n:Nat} {w w':World} {b:Nat} {f:Nat → Int} (h:OpW B n w b f) (hb:Below w.heap.size w w'):OpW B n w' b f :=
 ⟨fun i hi=>cell_bel hb (h.c i hi),fun o=>((Fr.of_below (S:=fun _=>False) hb).frozen (p:=⟨b,o,none⟩) h.b2 (by simp)).trans (h.z o),h.b1,Nat.lt_of_lt_of_le h.b2 hb.size⟩
theorem OpW.set {B n:Nat} {w:World} {b:Nat} {f:Nat → Int} (h:OpW B n w b f) (j:Nat) (v:Int) (hj:j < n):OpW B n (w.setCell ⟨b,j,none⟩ (.int .i64 v)) b (upd f j v) :=
 ⟨fun i hi=>by
  by_cases e:i = j
  ·subst e;rw [World.cell?_setCell_same _ _ _ (h.c i hi),upd_self]
  ·rw [World.cell?_setCell_other _ _ _ _ (addr_ne (Ne.symm e)),upd_ne _ _ e];exact h.c i hi,fun o=>by rw [World.frozen?_setCell];exact h.z o,h.b1,by simpa [World.setCell] using h.b2⟩
theorem OpW.congr {B n:Nat} {w:World} {b:Nat} {f g:Nat → Int} (h:OpW B n w b f) (e:∀ i,i < n → g i = f i):OpW B n w b g:=⟨fun i hi=>by rw [e i hi];exact h.c i hi,h.z,h.b1,h.b2⟩
theorem releases_ok (B:Nat) (bu:Int) (a:Option Addr) (n c:Nat) (tk:Nat → Tk) (ai:Option Addr) (ci:Nat) (l:List (List (Int × Int) × Bool)) (o:Nat → Nat → Nat → Int) (w:World) (hS:SetOk bu n tk) (hx:TksIn B w a n tk) (hi:InsIn B w ai l) (hB:B ≤ w.heap.size) (hnc:n ≤ c)
  (hl:l.length ≤ 100000) (hr:∀ x ∈ l,x.1.length ≤ 100000) (hR:RelOk tk n l o) :
  Calls Tryz.prog 43 #[.agg #[.int .i64 bu,.slice a n c],.slice ai l.length ci] w fun e w'=>e = .returned (.bool true) ∧ Below w.heap.size w w':=by
 have hm:Tryz.prog.follows .mixedOrders = true:=by kernel_rfl
 have hb0:=bel_alloc (Below.refl w.heap.size w) (.cells #[.int .i64 bu,.slice a n c] 24)
 have hbox1:=cell_newb w #[.int .i64 bu,.slice a n c] 24 _ 1 _ rfl rfl
 have hsz:=one_lt w (.cells #[.int .i64 bu,.slice a n c] 24)
 have HX:=Lib.hid hx
 have HI:=Lib.hid hi
 have HRR:=Lib.hid hR
 have HSS:=Lib.hid hS
 have HRL:=Lib.hid hr
 have HB0:=Lib.hid hb0
 have hn16:=hS.n2
 have hn0:=hS.n1
 have hnI:(n:Int) ≤ 16:=by omega
 have hlI:(l.length:Int) ≤ 100000:=by omega
 obtain ⟨i3,ki3,kz31,kz32,kz33⟩:=info_parts Tryz.info3
 clear hx hi hR hS hr hb0
 go_enter Tryz.func43,Tryz.ntmps43
 go_wp2_with (first
  |(at_make;refine wpList_make_full _ rfl _ _ 28 rfl w.heap.size 3 i3 (.int .i64 0) 1 Tryz.underlying28 ki3 kz31 kz32 .i64 .i64 _ _ n rfl rfl rfl rfl (by rw [kz33];omega) (by unfold maxLen;omega) (by omega) ?_
    intro w3 hown3 hgr3
    have hq3:Below (w.alloc (.cells #[.int .i64 bu,.slice a n c] 24)).heap.size (w.alloc (.cells #[.int .i64 bu,.slice a n c] 24)) w3:=Below.grown (Below.refl _ _) hgr3 (Nat.le_refl _) (fun k e=>by cases e)
    have HQ3:=Lib.hid hq3
    have HO3:=Lib.hid hown3
    have x31:=Lib.hid (cell_bel hq3 hbox1)
    clear hq3 hown3 hgr3 hbox1))
 obtain ⟨w1,hw1⟩:∃ w1,w1 = w.alloc (.cells #[.int .i64 bu,.slice a n c] 24):=⟨_,rfl⟩
 obtain ⟨g,hg⟩:∃ g,g = (w.alloc (.cells #[.int .i64 bu,.slice a n c] 24)).heap.size:=⟨_,rfl⟩
 have hgw:w.heap.size < g:=by rw [hg];exact hsz
 have hg3:g < w3.heap.size:=by
  have:=ownsRow_lt HO3.out g (by rw [hg];simp [Value.ownBlock])
  exact this
 have HW3:=Lib.hid (HB0.out.trans (HQ3.out.mono HB0.out.size))
 have hrz:(∀ j,j < n → w3.cell? ⟨g,j,none⟩ = some (.int .i64 0)) ∧ ∀ o,w3.frozen? ⟨g,o,none⟩ = false:=by
  have:=HO3.out
  rw [← hg] at this
  exact row_zero this
 have HOP:Hid (OpW w.heap.size n w3 g (o 0 0)):=⟨fun i hi=>by rw [HRR.out.z i hi];exact hrz.1 i hi,hrz.2,by omega,hg3⟩
 have hgs:(w.alloc (.cells #[.int .i64 bu,.slice a n c] 24)).heap.size = w.heap.size + 1:=by simp
 rw [hgs] at hg
 have hgE:w.heap.size + 1 = g:=hg.symm
 clear HO3 HQ3 hrz hw1 hgs hg
 try rw [hgE]
 go_loopw [16,6,7] (fun ix s6 s7 wx=>∃ k:Nat,k ≤ l.length ∧ ix = .int .i64 k ∧ Hid (OpW w.heap.size n wx g (o k 0) ∧ wx.cell? ⟨w.heap.size,1,none⟩ = some (.slice a n c) ∧ Below w.heap.size w wx)) (fun ix _ _ _=>l.length - (intOf ix).toNat)
 case atStart=>exact ⟨0,Nat.zero_le _,rfl,HOP.out,x31.out,HW3.out⟩
 case round =>
  obtain ⟨k,hk,rfl,HK⟩:=hrel
  by_cases hlt:k < l.length
  ·have hkI:(k:Int) < (l.length:Int):=by omega
   have hk0:(0:Int) ≤ (k:Int):=by omega
   have hdl:decide ((k:Int) < (l.length:Int)) = true:=decide_eq_true hkI
   obtain ⟨b,off,rfl,hbB,hcs⟩:=(HI.out.keep hB (Fr.of_below (S:=fun _=>False) HK.out.2.2) (fun _ _ t=>t)) (by omega)
   obtain ⟨aj,cj,c0,c1,c2⟩:=hcs k hlt
   have HC2:=Lib.hid c2
   have HSK:=Lib.hid (HRR.out.s k hlt)
   have HNK:=Lib.hid (HRR.out.n k hlt)
   have hml:l[k].1.length ≤ 100000:=HRL.out _ (List.getElem_mem hlt)
   generalize hrs:l[k].1 = rs at *
   generalize l[k].2 = hit at *
   clear hcs c2 hrs
   have hbb:=bel_alloc (Below.refl wr.heap.size wr) (.cells #[.slice aj rs.length cj,.bool hit] 55)
   have HBB:=Lib.hid hbb
   have HK1:Hid (OpW w.heap.size n (wr.alloc (.cells #[.slice aj rs.length cj,.bool hit] 55)) g (o k 0) ∧ (wr.alloc (.cells #[.slice aj rs.length cj,.bool hit] 55)).cell? ⟨w.heap.size,1,none⟩ = some (.slice a n c) ∧ Below w.heap.size w (wr.alloc (.cells #[.slice aj rs.length cj,.bool hit] 55))) :=
    ⟨HK.out.1.below hbb,cell_bel hbb HK.out.2.1,HK.out.2.2.trans (hbb.mono HK.out.2.2.size)⟩
   have HC3:=Lib.hid (HC2.out.keep (Nat.le_trans hB HK.out.2.2.size) (Fr.of_below (S:=fun _=>False) HBB.out) (fun _ _ t=>t))
   clear hbb
   go_wp2_with fail
   generalize hw4:wr.alloc (.cells #[.slice aj rs.length cj,.bool hit] 55) = w4 at HK1 HC3 HBB ⊢
   clear hw4
   go_loopw [24,9] (fun jx s9 wx=>∃ j:Nat,j ≤ rs.length ∧ jx = .int .i64 j ∧ Hid (OpW w.heap.size n wx g (o k j) ∧ wx.cell? ⟨w.heap.size,1,none⟩ = some (.slice a n c) ∧ Below w.heap.size w wx ∧ RelsIn B wx aj rs)) (fun jx _ _=>rs.length - (intOf jx).toNat)
   case atStart=>exact ⟨0,Nat.zero_le _,rfl,HK1.out.1,HK1.out.2.1,HK1.out.2.2,HC3.out⟩
   case round =>
    obtain ⟨j,hj,rfl,HJ⟩:=hrel
    by_cases hjl:j < rs.length
    ·have hjI:(j:Int) < (rs.length:Int):=by omega
     have hj0:(0:Int) ≤ (j:Int):=by omega
     have hdj:decide ((j:Int) < (rs.length:Int)) = true:=decide_eq_true hjI
     obtain ⟨rb,roff,rfl,hrB,hrc⟩:=HJ.out.2.2.2 (by omega)
     obtain ⟨r0,r1⟩:=hrc j hjl
     obtain ⟨s1,s2,s3,s4,s5,s6⟩:=HSK.out j hjl
     generalize rs[j].1 = ri at *
     generalize rs[j].2 = rd at *
     obtain ⟨i,rfl⟩:∃ i:Nat,ri = (i:Int):=⟨ri.toNat,by omega⟩
     simp only [Int.toNat_natCast] at s3 s5 s6
     have hin:i < n:=by omega
     have hinI:(i:Int) < (n:Int):=by omega
     have hi0:(0:Int) ≤ (i:Int):=by omega
     obtain ⟨tb,toff,rfl,htB,htc⟩:=(HX.out.keep ((HJ.out.2.2.1).mono hB)) hn0
     have hT:=htc i hin 1 _ rfl
     have hC:=htc i hin 3 _ rfl
     have hok:=HSS.out.ok i hin
     have hT1:=hok.tm
     have hT0:0 ≤ (tk i).T:=by have:=hok.c1;have:=hok.cd;have:=hok.dt;omega
     have hov:=HJ.out.1.c i hin
     obtain ⟨v,hv⟩:∃ v,o k j i = v:=⟨_,rfl⟩
     rw [hv] at s3 hov
     have hbr:=bel_alloc (Below.refl wr.heap.size wr) (.cells #[.int .i64 (i:Nat),.int .i64 rd] 79)
     have HJ5:Hid (OpW w.heap.size n (wr.alloc (.cells #[.int .i64 (i:Nat),.int .i64 rd] 79)) g (o k j) ∧ (wr.alloc (.cells #[.int .i64 (i:Nat),.int .i64 rd] 79)).cell? ⟨w.heap.size,1,none⟩ = some (.slice (some ⟨tb,toff,none⟩) n c) ∧ Below w.heap.size w (wr.alloc (.cells #[.int .i64 (i:Nat),.int .i64 rd] 79)) ∧ RelsIn B (wr.alloc (.cells #[.int .i64 (i:Nat),.int .i64 rd] 79)) (some ⟨rb,roff,none⟩) rs) :=
      ⟨HJ.out.1.below hbr,cell_bel hbr HJ.out.2.1,HJ.out.2.2.1.trans (hbr.mono HJ.out.2.2.1.size),HJ.out.2.2.2.keep (Nat.le_trans hB HJ.out.2.2.1.size) (Fr.of_below (S:=fun _=>False) hbr) (fun _ _ t=>t)⟩
     have q0:=fun d os=>cell_regrown (cell_newb wr #[.int .i64 (i:Nat),.int .i64 rd] 79 wr.heap.size 0 _ rfl rfl) d os
     have q1:=fun d os=>cell_regrown (cell_newb wr #[.int .i64 (i:Nat),.int .i64 rd] 79 wr.heap.size 1 _ rfl rfl) d os
     have q2:=fun d os=>cell_regrown HJ5.out.2.1 d os
     have q3:=fun d os=>cell_regrown (cell_bel hbr hov) d os
     have q4:=fun d os=>cell_regrown (cell_bel hbr hC) d os
     have p0:=cell_newb wr #[.int .i64 (i:Nat),.int .i64 rd] 79 wr.heap.size 0 _ rfl rfl
     have HP:=Lib.hid (And.intro hT hbr)
     have e1:decide ((i:Int) < 0) = false:=decide_eq_false (by omega)
     have e2:decide ((n:Int) ≤ (i:Int)) = false:=decide_eq_false (by omega)
     have e2':decide (n ≤ i) = false:=decide_eq_false (by omega)
     have e3:decide ((k:Int) < v) = false:=decide_eq_false (by omega)
     have e4:decide (rd < 1) = false:=decide_eq_false (by omega)
     have e5:decide ((tk i).C < rd) = false:=decide_eq_false (by omega)
     have HS6:=Lib.hid s6
     clear hrc htc hT hC hov hbr s1 s2 s6 hv
     go_wp2_with fail
     refine wp_region_quiet_below hm (by kernel_rfl) ?_
     repeat (quiet_step (fail))
     refine wpQuiet_nil ?_
     intro _ hw'
     obtain ⟨⟨dq,osq⟩,hw''⟩:=hw'
     subst hw''
     have hbq:=below_regrown (wr.alloc (.cells #[.int .i64 (i:Nat),.int .i64 rd] 79)) dq osq
     have HJ6:Hid (OpW w.heap.size n (Sort.grow (redrawn (wr.alloc (.cells #[.int .i64 (i:Nat),.int .i64 rd] 79)) dq) osq) g (o k j) ∧ (Sort.grow (redrawn (wr.alloc (.cells #[.int .i64 (i:Nat),.int .i64 rd] 79)) dq) osq).cell? ⟨w.heap.size,1,none⟩ = some (.slice (some ⟨tb,toff,none⟩) n c) ∧ Below w.heap.size w (Sort.grow (redrawn (wr.alloc (.cells #[.int .i64 (i:Nat),.int .i64 rd] 79)) dq) osq) ∧ RelsIn B (Sort.grow (redrawn (wr.alloc (.cells #[.int .i64 (i:Nat),.int .i64 rd] 79)) dq) osq) (some ⟨rb,roff,none⟩) rs) :=
      ⟨HJ5.out.1.below hbq,cell_bel hbq HJ5.out.2.1,HJ5.out.2.2.1.trans (hbq.mono HJ5.out.2.2.1.size),HJ5.out.2.2.2.keep (Nat.le_trans hB HJ5.out.2.2.1.size) (Fr.of_below (S:=fun _=>False) hbq) (fun _ _ t=>t)⟩
     have d0:=cell_bel hbq p0
     have dT:=cell_bel hbq (cell_bel HP.out.2 HP.out.1)
     have hrl:=Nat.lt_of_lt_of_le (block_lt p0) hbq.size
     clear q0 q1 q2 q3 q4 p0 HP HJ5 hbq e1 e2 e2' e3 e4 e5
     generalize Sort.grow (redrawn (wr.alloc (.cells #[.int .i64 (i:Nat),.int .i64 rd] 79)) dq) osq = w6 at *
     have d1:=HJ6.out.2.1
     have hov:=HJ6.out.1.c i hin
     have hoz:=HJ6.out.1.z i
     go_wp2_with fail
     go_region
     have F7:Fr (fun q=>q = g) w6 (w6.setCell ⟨g,i,none⟩ (.int .i64 ((k:Int) + (tk i).T))).drew:=((Fr.refl (· = g) w6).setCell (p:=⟨g,i,none⟩) rfl _).drew
     have HJ7:Hid (OpW w.heap.size n (w6.setCell ⟨g,i,none⟩ (.int .i64 ((k:Int) + (tk i).T))).drew g (o k (j + 1)) ∧ (w6.setCell ⟨g,i,none⟩ (.int .i64 ((k:Int) + (tk i).T))).drew.cell? ⟨w.heap.size,1,none⟩ = some (.slice (some ⟨tb,toff,none⟩) n c) ∧ Below w.heap.size w (w6.setCell ⟨g,i,none⟩ (.int .i64 ((k:Int) + (tk i).T))).drew ∧ RelsIn B (w6.setCell ⟨g,i,none⟩ (.int .i64 ((k:Int) + (tk i).T))).drew (some ⟨rb,roff,none⟩) rs) :=
      ⟨((HJ6.out.1.set i ((k:Int) + (tk i).T) hin).below (bel_drew (Below.refl _ _))).congr HS6.out,(F7.cell (p:=⟨w.heap.size,1,none⟩) (block_lt HJ6.out.2.1) (by show ¬ w.heap.size = g;omega)).trans HJ6.out.2.1,HJ6.out.2.2.1.trans (F7.below (fun q _ e=>by omega) HJ6.out.2.2.1.size),HJ6.out.2.2.2.keep (Nat.le_trans hB HJ6.out.2.2.1.size) F7 (fun q hq e=>by omega)⟩
     clear F7 HJ6 d0 d1 dT hov hoz
     generalize (w6.setCell ⟨g,i,none⟩ (.int .i64 ((k:Int) + (tk i).T))).drew = w7 at *
     go_wp2_with fail
     go_roundw
     case rel=>exact ⟨j + 1,by omega,by simp,HJ7.out⟩
     case measure=>simp [intOf];omega
    ·have hjl':j = rs.length:=by omega
     subst hjl'
     have hdj:decide ((rs.length:Int) < (rs.length:Int)) = false:=decide_eq_false (by omega)
     have HJ9:=Lib.hid HJ.out
     clear HJ
     go_wp2_with fail
     go_roundw
     case rel=>exact ⟨k + 1,by omega,by simp,HJ9.out.1.congr HNK.out,HJ9.out.2.1,HJ9.out.2.2.1⟩
     case measure=>simp [intOf];omega
  ·have hkn:k = l.length:=by omega
   subst hkn
   have hdl:decide ((l.length:Int) < (l.length:Int)) = false:=decide_eq_false (by omega)
   have HK9:=Lib.hid HK.out
   clear HK
   go_wp2_with fail
   go_ret
   exact ⟨rfl,HK9.out.2.2⟩
end
end Go.Proofs.YtnoahekcemfmcaaGreatDoor
