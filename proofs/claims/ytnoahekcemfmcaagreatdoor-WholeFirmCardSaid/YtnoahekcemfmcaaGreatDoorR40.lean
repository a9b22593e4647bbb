/- A part of the walk: Tj Tk Tm. -/
import Derived.Test.YtnoahekcemfmcaaGreatDoorR39
import Derived.Test.YtnoahekcemfmcaaGreatDoorR28
import Derived.Test.YtnoahekcemfmcaaGreatDoorR29
namespace Go.Proofs.YtnoahekcemfmcaaGreatDoor
set_option linter.unusedVariables false
set_option linter.unusedSimpArgs false
set_option maxHeartbeats 80000000
set_option maxRecDepth 100000
section
open Go.RowKit
theorem sindex_is (w:World) (xb c m:Nat) (S:Nat → ByteArray) (v:ByteArray) (r:Int) (h0:0 < m) (hm:m ≤ 100) (hx:∀ j,j < m → w.cell? ⟨xb,j,none⟩ = some (.string (S j))) (hr:(∃ k:Nat,k < m ∧ r = (k:Int) ∧ v = S k ∧ ∀ j,j < k → (v.toList == (S j).toList) = false)) :
  Calls Tryz.prog 205 #[.slice (some ⟨xb,0,none⟩) m c,.string v] w fun e w'=>e = .returned (.int .i64 r) ∧ w' = w:=by
 obtain ⟨q,hq,rfl,hv,hne⟩:=hr
 go_enter Tryz.func205,Tryz.ntmps205
 go_wp2_with fail
 go_loopw [8] (fun ix wx=>∃ k:Nat,k ≤ q ∧ ix = .int .i64 k ∧ wx = w) (fun ix _=>q + 1 - (intOf ix).toNat)
 case atStart=>exact ⟨0,Nat.zero_le _,rfl,rfl⟩
 case round =>
  obtain ⟨k,hk,rfl,rfl⟩:=hrel
  have hkI:(k:Int) < (m:Int):=by omega
  have hk0:(0:Int) ≤ (k:Int):=by omega
  have hdl:decide ((k:Int) < (m:Int)) = true:=decide_eq_true hkI
  have hc:=hx k (by omega)
  by_cases hlt:k < q
  ·have hn:=hne k hlt
   clear hv hne
   go_wp2_with fail
   go_roundw
   case rel=>exact ⟨k + 1,by omega,by simp,by simp⟩
   case measure=>simp [intOf];omega
  ·have hkq:k = q:=by omega
   subst hkq
   subst hv
   have hb:((S k).toList == (S k).toList) = true:=beq_self_eq_true _
   clear hne
   go_wp2_with fail
   go_ret
   exact ⟨rfl,rfl⟩
theorem scontains_is (w:World) (xb c m:Nat) (S:Nat → ByteArray) (v:ByteArray) (h0:0 < m) (hm:m ≤ 100) (hx:∀ j,j < m → w.cell? ⟨xb,j,none⟩ = some (.string (S j))) (hr:(∃ k:Nat,k < m ∧ v = S k ∧ ∀ j,j < k → (v.toList == (S j).toList) = false)) :
  Calls Tryz.prog 203 #[.slice (some ⟨xb,0,none⟩) m c,.string v] w fun e w'=>e = .returned (.bool true) ∧ w' = w:=by
 obtain ⟨q,hq,hv,hne⟩:=hr
 have H:=Lib.hid (sindex_is w xb c m S v q h0 hm hx ⟨q,hq,rfl,hv,hne⟩)
 have hd:decide ((q:Int) ≥ 0) = true:=decide_eq_true (by omega)
 clear hx hv hne
 go_enter Tryz.func203,Tryz.ntmps203
 go_wp2_with (go_at_call 205;refine H.out.mono ?_;rintro e w1 ⟨rfl,rfl⟩)
 go_ret
 exact ⟨rfl,rfl⟩
def modeT (m:Nat):List Int:=if m = 1 then [114,101,116,114,121] else if m = 2 then [98,108,111,99,107] else [98,97,99,107,117,112]
theorem pmode_is (m:Nat) (w:World) (h1:1 ≤ m) (h3:m ≤ 3) :
  Calls Tryz.prog 174 #[.string (strOfNums (modeT m))] w fun e w'=>e = .returned (.int .i64 m) ∧ GrS w w':=by
 have HM:Hid (∀ w,Calls Tryz.prog 206 #[] w fun e w'=>e = .returned (.slice (some ⟨w.heap.size,0,none⟩) 4 4) ∧ w' = w.alloc (.cells #[.string ⟨#[]⟩,.string ⟨#[114,101,116,114,121]⟩,.string ⟨#[98,108,111,99,107]⟩,.string ⟨#[98,97,99,107,117,112]⟩] 9)):=fun w=>by
  go_enter Tryz.func206,Tryz.ntmps206
  go_wp2_with fail
  go_ret
  exact ⟨rfl,rfl⟩
 let S:Nat → ByteArray:=fun j=>if j = 0 then ⟨#[]⟩ else strOfNums (modeT j)
 have HI:=Lib.hid (sindex_is (w.alloc (.cells #[.string ⟨#[]⟩,.string ⟨#[114,101,116,114,121]⟩,.string ⟨#[98,108,111,99,107]⟩,.string ⟨#[98,97,99,107,117,112]⟩] 9)) w.heap.size 4 4 S (strOfNums (modeT m)) m (by omega) (by omega)
  (fun j hj=>by
   have:j = 0 ∨ j = 1 ∨ j = 2 ∨ j = 3:=by omega
   rcases this with rfl | rfl | rfl | rfl <;> exact cell_newb _ _ _ _ _ _ rfl rfl)
  ⟨m,by omega,rfl,by show _ = (if m = 0 then _ else _);rw [if_neg (by omega)],fun j hj=>by
   have:m = 1 ∨ m = 2 ∨ m = 3:=by omega
   rcases this with rfl | rfl | rfl
   ·obtain rfl:j = 0:=by omega
    decide +kernel
   ·have:j = 0 ∨ j = 1:=by omega
    rcases this with rfl | rfl <;> decide +kernel
   ·have:j = 0 ∨ j = 1 ∨ j = 2:=by omega
    rcases this with rfl | rfl | rfl <;> decide +kernel⟩)
 have hem1:¬ (strOfNums (modeT m)).toList = []:=by
  have:m = 1 ∨ m = 2 ∨ m = 3:=by omega
  rcases this with rfl | rfl | rfl <;> decide +kernel
 have hem2:(strOfNums (modeT m)).toList.isEmpty = false:=by
  have:m = 1 ∨ m = 2 ∨ m = 3:=by omega
  rcases this with rfl | rfl | rfl <;> decide +kernel
 have hd:decide ((m:Int) < 0) = false:=decide_eq_false (by omega)
 clear_value S
 generalize strOfNums (modeT m) = v at *
 go_enter Tryz.func174,Tryz.ntmps174
 go_wp2_with (first | (go_at_call 206;refine (HM.out _).mono ?_;rintro e w1 ⟨rfl,rfl⟩) | (go_at_call 205;refine HI.out.mono ?_;rintro e w1 ⟨rfl,rfl⟩))
 go_ret
 exact ⟨rfl,.alloc _ _⟩
end
section
open Go.RowKit
structure PW (base:Nat) (w:World) (p tb tc N:Nat) (T:Nat → Tok) (k:Nat) (bu:Int) (tks:List Tk) (hd:List Tok) (sv hv:Value):Prop where
 c0:w.cell? ⟨p,0,none⟩ = some (.slice (some ⟨tb,k * 5,none⟩) (N - k) (tc - k))
 c1:w.cell? ⟨p,1,none⟩ = some (.int .i64 0)
 c2:w.cell? ⟨p,2,none⟩ = some (.int .i64 0)
 c3:w.cell? ⟨p,3,none⟩ = some (.int .i64 0)
 c4:w.cell? ⟨p,4,none⟩ = some (.int .i64 bu)
 c5:w.cell? ⟨p,5,none⟩ = some sv
 cb:w.there p 6 5
 ch:w.cell? ⟨p,11,none⟩ = some hv
 own1:w.ownsRow base 41 11 sv tks.length (tks.flatMap tkc)
 own2:w.ownsRow base 233 5 hv hd.length (hd.flatMap tokc)
 ap:∀ q,sv.ownBlock = some q → hv.ownBlock ≠ some q
 fz:∀ o,w.frozen? ⟨p,o,none⟩ = false
 tk:∀ i,i < N → w.rangeAt tb (i * 5) (tokc (T i))
 pb:p < base
 tbb:tb < base
 ne:tb ≠ p
 bl:base ≤ w.heap.size
 cap:N ≤ tc
section
variable {base:Nat} {w w':World} {p tb tc N k:Nat} {T:Nat → Tok} {bu:Int} {tks:List Tk} {hd:List Tok} {sv hv:Value}
theorem PW.fr {S:Nat → Prop} (h:PW base w p tb tc N T k bu tks hd sv hv) (hf:Fr S w w') (h1:¬ S p) (h2:¬ S tb) (h3:∀ q,sv.ownBlock = some q → ¬ S q) (h4:∀ q,hv.ownBlock = some q → ¬ S q):PW base w' p tb tc N T k bu tks hd sv hv:=by
 have hp:=block_lt h.c0
 have c:∀ j,w'.cell? ⟨p,j,none⟩ = w.cell? ⟨p,j,none⟩:=fun j=>hf.cell (p:=⟨p,j,none⟩) hp h1
 have z:∀ j,w'.frozen? ⟨p,j,none⟩ = w.frozen? ⟨p,j,none⟩:=fun j=>hf.frozen (p:=⟨p,j,none⟩) hp h1
 exact ⟨(c 0).trans h.c0,(c 1).trans h.c1,(c 2).trans h.c2,(c 3).trans h.c3,(c 4).trans h.c4,(c 5).trans h.c5,fun j hj=>by rw [c,z];exact h.cb j hj,(c 11).trans h.ch,
  ownsRow_keep h.own1 (fun q hq=>hf.block q (ownsRow_lt h.own1 q hq) (h3 q hq)),ownsRow_keep h.own2 (fun q hq=>hf.block q (ownsRow_lt h.own2 q hq) (h4 q hq)),h.ap,fun o=>(z o).trans (h.fz o),
  fun i hi=>rg_fr hf (Nat.lt_of_lt_of_le h.tbb h.bl) h2 (h.tk i hi),h.pb,h.tbb,h.ne,Nat.le_trans h.bl hf.size,h.cap⟩
theorem PW.below (h:PW base w p tb tc N T k bu tks hd sv hv) (hb:Below w.heap.size w w'):PW base w' p tb tc N T k bu tks hd sv hv :=
 h.fr (S:=fun _=>False) (Fr.of_below hb) (by simp) (by simp) (by simp) (by simp)
theorem PW.set (h:PW base w p tb tc N T k bu tks hd sv hv) (j:Nat) (u:Value) (k':Nat) (bu':Int) (hj:j = 0 ∨ j = 4)
  (h0:(w.setCell ⟨p,j,none⟩ u).cell? ⟨p,0,none⟩ = some (.slice (some ⟨tb,k' * 5,none⟩) (N - k') (tc - k'))) (h4:(w.setCell ⟨p,j,none⟩ u).cell? ⟨p,4,none⟩ = some (.int .i64 bu')):PW base (w.setCell ⟨p,j,none⟩ u) p tb tc N T k' bu' tks hd sv hv:=by
 have c:∀ i,i ≠ j → (w.setCell ⟨p,j,none⟩ u).cell? ⟨p,i,none⟩ = w.cell? ⟨p,i,none⟩:=fun i hi=>World.cell?_setCell_other _ _ _ _ (addr_ne (Ne.symm hi))
 have hpb:=h.pb
 exact ⟨h0,(c 1 (by omega)).trans h.c1,(c 2 (by omega)).trans h.c2,(c 3 (by omega)).trans h.c3,h4,(c 5 (by omega)).trans h.c5,fun i hi=>by rw [c _ (by omega),World.frozen?_setCell];exact h.cb i hi,(c 11 (by omega)).trans h.ch,
  ownsRow_keep h.own1 (fun q hq=>Below.heap_setCell _ _ _ _ (by have:=ownsRow_block h.own1 q hq;show q ≠ p;omega)),ownsRow_keep h.own2 (fun q hq=>Below.heap_setCell _ _ _ _ (by have:=ownsRow_block h.own2 q hq;show q ≠ p;omega)),h.ap,fun o=>by rw [World.frozen?_setCell];exact h.fz o,
  fun i hi=>rg_fr ((Fr.refl (· = p) w).setCell (p:=⟨p,j,none⟩) rfl u) (Nat.lt_of_lt_of_le h.tbb h.bl) h.ne (h.tk i hi),h.pb,h.tbb,h.ne,by simpa [World.setCell] using h.bl,h.cap⟩
theorem Tryz.size233:(Tryz.prog.info? 233).map (·.size) = some 5:=by kernel_rfl
theorem tokc_len (t:Tok):(tokc t).length = 5:=rfl
theorem now_is (h:PW base w p tb tc N T k bu tks hd sv hv) (hk:k < N) :
  Calls Tryz.prog 129 #[.pointer (some ⟨p,0,none⟩)] w fun e w'=>e = .returned (.agg (tokc (T k)).toArray) ∧ Below w.heap.size w w':=by
 have c0:=cell_bel (bel_alloc (Below.refl _ w) (.cells #[.int .i64 0,.string ⟨#[]⟩,.int .i64 0,.int .i64 0,.int .i64 0] 233)) h.c0
 have hrg:=rg_below (bel_alloc (Below.refl _ w) (.cells #[.int .i64 0,.string ⟨#[]⟩,.int .i64 0,.int .i64 0,.int .i64 0] 233)) (Nat.lt_of_lt_of_le h.tbb h.bl) (h.tk k hk)
 have hth:(w.alloc (.cells #[.int .i64 0,.string ⟨#[]⟩,.int .i64 0,.int .i64 0,.int .i64 0] 233)).there w.heap.size 0 5:=th_new _ _ _ _ 5 (by simp) (by simp)
 have HB:=Lib.hid (bel_alloc (Below.refl _ w) (.cells #[.int .i64 0,.string ⟨#[]⟩,.int .i64 0,.int .i64 0,.int .i64 0] 233))
 obtain ⟨n,hn⟩:∃ n,N - k = n:=⟨_,rfl⟩
 have hn0:0 < n:=by omega
 have hnI:(0:Int) < (n:Int):=by omega
 rw [hn] at c0
 clear h hk
 generalize tc - k = c9 at *
 go_enter Tryz.func129,Tryz.ntmps129
 go_wp2_with (first | (refine wpList_load_mid rfl 233 _ rfl tb (k * 5) rfl (tokc (T k)) _ hrg Tryz.underlying233 rfl Tryz.size233 ?_) | (refine wpList_store_mid rfl 233 _ _ rfl w.heap.size 0 _ rfl rfl hth Tryz.size233 (by simp [Value.oneCell',tokc]) ?_))
 exact bodyPost_ret (res_cell rfl _ _ w.heap.size _ _ rfl (World.rangeAt_setCells_same _ _ _ _ hth) Tryz.underlying233 rfl Tryz.size233) rfl ⟨rfl,below_setCells (by omega) _ _ _ HB.out⟩
theorem fld0 (a b c d:Int) (s:ByteArray) (w:World):Sem.run Tryz.prog (Instr.field 233 (.agg #[.int .i64 a,.string s,.int .i64 b,.int .i64 c,.int .i64 d]) 0) w = .ok (.int .i64 a) w:=by kernel_rfl
theorem fld1 (a b c d:Int) (s:ByteArray) (w:World):Sem.run Tryz.prog (Instr.field 233 (.agg #[.int .i64 a,.string s,.int .i64 b,.int .i64 c,.int .i64 d]) 1) w = .ok (.string s) w:=by kernel_rfl
theorem fld2 (a b c d:Int) (s:ByteArray) (w:World):Sem.run Tryz.prog (Instr.field 233 (.agg #[.int .i64 a,.string s,.int .i64 b,.int .i64 c,.int .i64 d]) 2) w = .ok (.int .i64 b) w:=by kernel_rfl
theorem blank_is (h:PW base w p tb tc N T k bu tks hd sv hv) (hk:k < N) (hq:(T k).kind ≠ 3) :
  Calls Tryz.prog 127 #[.pointer (some ⟨p,0,none⟩)] w fun e w'=>e = .returned (.tuple #[]) ∧ Below w.heap.size w w':=by
 have H:=Lib.hid (now_is h hk)
 have hd:((T k).kind == 3) = false:=by simpa using hq
 clear h
 have hf0:=fld0
 unfold tokc at H
 go_enter Tryz.func127,Tryz.ntmps127
 go_wp2_with fail
 go_loopw [] (fun wx=>wx = w) (fun wx=>0)
 case atStart=>rfl
 case round =>
  subst hrel
  go_wp2_with (go_at_call 129;refine H.out.mono ?_;rintro e w1 ⟨rfl,hb⟩)
  go_end0
  exact ⟨rfl,hb⟩
theorem take_some (h:PW base w p tb tc N T k bu tks hd sv hv) (hk:k + 1 < N) (kind:Int) (xb cx m:Nat) (S:Nat → ByteArray) (h0:0 < m) (hm:m ≤ 100) (hx:∀ j,j < m → w.cell? ⟨xb,j,none⟩ = some (.string (S j))) (hq:(T k).kind = kind)
  (hr:(∃ k1:Nat,k1 < m ∧ strOfNums (T k).text = S k1 ∧ ∀ j,j < k1 → ((strOfNums (T k).text).toList == (S j).toList) = false)) :
  Calls Tryz.prog 171 #[.pointer (some ⟨p,0,none⟩),.int .i64 kind,.slice (some ⟨xb,0,none⟩) m cx] w fun e w'=>e = .returned (.agg (tokc (T k)).toArray) ∧ PW base w' p tb tc N T (k + 1) bu tks hd sv hv ∧ Fr (fun q=>q = p) w w':=by
 let W1:=w.alloc (.cells #[.int .i64 0,.string ⟨#[]⟩,.int .i64 0,.int .i64 0,.int .i64 0] 233)
 have hb1:Below w.heap.size w W1:=bel_alloc (Below.refl _ w) _
 have HN:=Lib.hid (now_is (h.below hb1) (by omega))
 have HB1:=Lib.hid hb1
 have hth:W1.there w.heap.size 0 5:=th_new _ _ _ _ 5 (by simp) (by simp)
 have HTH:=Lib.hid hth
 have HH:=Lib.hid h
 have HC:Hid (∀ w',Below w.heap.size w w' → Calls Tryz.prog 203 #[.slice (some ⟨xb,0,none⟩) m cx,.string (strOfNums (T k).text)] w' fun e w''=>e = .returned (.bool true) ∧ w'' = w'):=fun w' hb=>scontains_is w' xb cx m S _ h0 hm (fun j hj=>cell_bel hb (hx j hj)) hr
 have hmI:(0:Int) < (m:Int):=by omega
 have hdm:decide ((m:Int) > 0) = true:=decide_eq_true hmI
 clear h hb1 hth hx
 have hf0:=fld0
 have hf1:=fld1
 obtain ⟨n,hn⟩:∃ n,N - k = n:=⟨_,rfl⟩
 obtain ⟨c9,hc9⟩:∃ n,tc - k = n:=⟨_,rfl⟩
 have hcp:=HH.out.cap
 have hn2:1 < n:=by omega
 have hnc:n ≤ c9:=by omega
 have hnI:(1:Int) ≤ (n:Int):=by omega
 have hc1:¬ c9 = 1:=by omega
 have HEQ:Hid (∀ a:Nat,(Value.slice (some ⟨tb,a + 5,none⟩) (n - 1) (c9 - 1)) = (Value.slice (some ⟨tb,a + 5,none⟩) (N - (k + 1)) (tc - (k + 1)))):=fun a=>by rw [show n - 1 = N - (k + 1) by omega,show c9 - 1 = tc - (k + 1) by omega]
 have HE0:Hid (∀ w',Below w.heap.size w w' → w'.cell? ⟨p,0,none⟩ = some (.slice (some ⟨tb,k * 5,none⟩) n c9)):=fun w' hb=>by rw [← hn,← hc9];exact (HH.out.below hb).c0
 clear hn hc9
 unfold tokc at HN
 go_enter Tryz.func171,Tryz.ntmps171
 go_wp2_with (first
  |(go_at_call 129;refine HN.out.mono ?_;rintro e w1 ⟨rfl,hb1⟩
    have HW1:=Lib.hid (HB1.out.trans (hb1.mono HB1.out.size))
    have HW2:=Lib.hid (bel_alloc HW1.out (.cells #[.int .i64 kind,.string (strOfNums (T k).text),.int .i64 (T k).value,.int .i64 (T k).line,.int .i64 (T k).col] 233))
    have e0:=HE0.out _ HW2.out
    have e1:=(HH.out.below HW2.out).c1
    have z0:=(HH.out.below HW2.out).fz 0
    have hpb:=HH.out.pb
    have hbl:=HH.out.bl
    have hw1s:=HW1.out.size
    have hrg:((w1.alloc (.cells #[.int .i64 kind,.string (strOfNums (T k).text),.int .i64 (T k).value,.int .i64 (T k).line,.int .i64 (T k).col] 233)).setCell ⟨p,0,none⟩ (.slice (some ⟨tb,k * 5 + 5,none⟩) (n - 1) (c9 - 1))).rangeAt w1.heap.size 0 ((#[.int .i64 kind,.string (strOfNums (T k).text),.int .i64 (T k).value,.int .i64 (T k).line,.int .i64 (T k).col]:Array Value).toList):=rg_set_ne (rg_new w1 _ _ _ rfl) (by omega)
    have hth3:((w1.alloc (.cells #[.int .i64 kind,.string (strOfNums (T k).text),.int .i64 (T k).value,.int .i64 (T k).line,.int .i64 (T k).col] 233)).setCell ⟨p,0,none⟩ (.slice (some ⟨tb,k * 5 + 5,none⟩) (n - 1) (c9 - 1))).there w.heap.size 0 5:=th_set (th_below (bel_alloc hb1 _) (by show w.heap.size < (w.alloc _).heap.size;simp) (HTH.out))
    clear hb1)
  |(go_at_call 203;refine (HC.out _ HW2.out).mono ?_;rintro e w3 ⟨rfl,rfl⟩)
  |(refine wpList_load_mid rfl 233 _ rfl w1.heap.size 0 rfl _ _ hrg Tryz.underlying233 rfl Tryz.size233 ?_)
  |(refine wpList_store_mid rfl 233 _ _ rfl w.heap.size 0 _ rfl rfl hth3 Tryz.size233 (by simp [Value.oneCell']) ?_))
 have hpb:=HH.out.pb
 have hbl:=HH.out.bl
 have htb:=HH.out.tbb
 have P1:=HH.out.below HW2.out
 have P2:=P1.set 0 (.slice (some ⟨tb,k * 5 + 5,none⟩) (n - 1) (c9 - 1)) (k + 1) bu (.inl rfl) (by rw [World.cell?_setCell_same _ _ _ e0,show (k + 1) * 5 = k * 5 + 5 by omega,HEQ.out]) (by rw [World.cell?_setCell_other _ _ _ _ (addr_ne (by omega))];exact P1.c4)
 have F2:Fr (fun q=>q = p ∨ q = w.heap.size) w ((w1.alloc (.cells #[.int .i64 kind,.string (strOfNums (T k).text),.int .i64 (T k).value,.int .i64 (T k).line,.int .i64 (T k).col] 233)).setCell ⟨p,0,none⟩ (.slice (some ⟨tb,k * 5 + 5,none⟩) (n - 1) (c9 - 1))):=(Fr.of_below (S:=fun q=>q = p ∨ q = w.heap.size) HW2.out).setCell (p:=⟨p,0,none⟩) (.inl rfl) _
 refine bodyPost_ret (res_cell rfl _ _ w.heap.size _ _ rfl (World.rangeAt_setCells_same _ _ _ _ hth3) Tryz.underlying233 rfl Tryz.size233) rfl ⟨by unfold tokc;rw [hq],?_,?_⟩
 ·exact P2.fr (S:=fun q=>q = w.heap.size) (fr_setCells (S:=fun q=>q = w.heap.size) rfl _ _ _ (Fr.refl _ _)) (by omega) (by omega) (fun q e=>by have:=ownsRow_lt HH.out.own1 q e;omega) (fun q e=>by have:=ownsRow_lt HH.out.own2 q e;omega)
 ·exact (fr_setCells (S:=fun q=>q = p ∨ q = w.heap.size) (.inr rfl) _ _ _ F2).mono (fun q hq e=>by omega)
theorem take_none (h:PW base w p tb tc N T k bu tks hd sv hv) (hk:k + 1 < N) (kind:Int) (hq:(T k).kind = kind) :
  Calls Tryz.prog 171 #[.pointer (some ⟨p,0,none⟩),.int .i64 kind,.slice none 0 0] w fun e w'=>e = .returned (.agg (tokc (T k)).toArray) ∧ PW base w' p tb tc N T (k + 1) bu tks hd sv hv ∧ Fr (fun q=>q = p) w w':=by
 let W1:=w.alloc (.cells #[.int .i64 0,.string ⟨#[]⟩,.int .i64 0,.int .i64 0,.int .i64 0] 233)
 have hb1:Below w.heap.size w W1:=bel_alloc (Below.refl _ w) _
 have HN:=Lib.hid (now_is (h.below hb1) (by omega))
 have HB1:=Lib.hid hb1
 have hth:W1.there w.heap.size 0 5:=th_new _ _ _ _ 5 (by simp) (by simp)
 have HTH:=Lib.hid hth
 have HH:=Lib.hid h
 clear h hb1 hth
 have hf0:=fld0
 have hf1:=fld1
 obtain ⟨n,hn⟩:∃ n,N - k = n:=⟨_,rfl⟩
 obtain ⟨c9,hc9⟩:∃ n,tc - k = n:=⟨_,rfl⟩
 have hcp:=HH.out.cap
 have hn2:1 < n:=by omega
 have hnc:n ≤ c9:=by omega
 have hnI:(1:Int) ≤ (n:Int):=by omega
 have hc1:¬ c9 = 1:=by omega
 have HEQ:Hid (∀ a:Nat,(Value.slice (some ⟨tb,a + 5,none⟩) (n - 1) (c9 - 1)) = (Value.slice (some ⟨tb,a + 5,none⟩) (N - (k + 1)) (tc - (k + 1)))):=fun a=>by rw [show n - 1 = N - (k + 1) by omega,show c9 - 1 = tc - (k + 1) by omega]
 have HE0:Hid (∀ w',Below w.heap.size w w' → w'.cell? ⟨p,0,none⟩ = some (.slice (some ⟨tb,k * 5,none⟩) n c9)):=fun w' hb=>by rw [← hn,← hc9];exact (HH.out.below hb).c0
 clear hn hc9
 unfold tokc at HN
 go_enter Tryz.func171,Tryz.ntmps171
 go_wp2_with (first
  |(go_at_call 129;refine HN.out.mono ?_;rintro e w1 ⟨rfl,hb1⟩
    have HW1:=Lib.hid (HB1.out.trans (hb1.mono HB1.out.size))
    have HW2:=Lib.hid (bel_alloc HW1.out (.cells #[.int .i64 kind,.string (strOfNums (T k).text),.int .i64 (T k).value,.int .i64 (T k).line,.int .i64 (T k).col] 233))
    have e0:=HE0.out _ HW2.out
    have e1:=(HH.out.below HW2.out).c1
    have z0:=(HH.out.below HW2.out).fz 0
    have hpb:=HH.out.pb
    have hbl:=HH.out.bl
    have hw1s:=HW1.out.size
    have hrg:((w1.alloc (.cells #[.int .i64 kind,.string (strOfNums (T k).text),.int .i64 (T k).value,.int .i64 (T k).line,.int .i64 (T k).col] 233)).setCell ⟨p,0,none⟩ (.slice (some ⟨tb,k * 5 + 5,none⟩) (n - 1) (c9 - 1))).rangeAt w1.heap.size 0 ((#[.int .i64 kind,.string (strOfNums (T k).text),.int .i64 (T k).value,.int .i64 (T k).line,.int .i64 (T k).col]:Array Value).toList):=rg_set_ne (rg_new w1 _ _ _ rfl) (by omega)
    have hth3:((w1.alloc (.cells #[.int .i64 kind,.string (strOfNums (T k).text),.int .i64 (T k).value,.int .i64 (T k).line,.int .i64 (T k).col] 233)).setCell ⟨p,0,none⟩ (.slice (some ⟨tb,k * 5 + 5,none⟩) (n - 1) (c9 - 1))).there w.heap.size 0 5:=th_set (th_below (bel_alloc hb1 _) (by show w.heap.size < (w.alloc _).heap.size;simp) (HTH.out))
    clear hb1)
  |(refine wpList_load_mid rfl 233 _ rfl w1.heap.size 0 rfl _ _ hrg Tryz.underlying233 rfl Tryz.size233 ?_)
  |(refine wpList_store_mid rfl 233 _ _ rfl w.heap.size 0 _ rfl rfl hth3 Tryz.size233 (by simp [Value.oneCell']) ?_))
 have hpb:=HH.out.pb
 have hbl:=HH.out.bl
 have htb:=HH.out.tbb
 have P1:=HH.out.below HW2.out
 have P2:=P1.set 0 (.slice (some ⟨tb,k * 5 + 5,none⟩) (n - 1) (c9 - 1)) (k + 1) bu (.inl rfl) (by rw [World.cell?_setCell_same _ _ _ e0,show (k + 1) * 5 = k * 5 + 5 by omega,HEQ.out]) (by rw [World.cell?_setCell_other _ _ _ _ (addr_ne (by omega))];exact P1.c4)
 have F2:Fr (fun q=>q = p ∨ q = w.heap.size) w ((w1.alloc (.cells #[.int .i64 kind,.string (strOfNums (T k).text),.int .i64 (T k).value,.int .i64 (T k).line,.int .i64 (T k).col] 233)).setCell ⟨p,0,none⟩ (.slice (some ⟨tb,k * 5 + 5,none⟩) (n - 1) (c9 - 1))):=(Fr.of_below (S:=fun q=>q = p ∨ q = w.heap.size) HW2.out).setCell (p:=⟨p,0,none⟩) (.inl rfl) _
 refine bodyPost_ret (res_cell rfl _ _ w.heap.size _ _ rfl (World.rangeAt_setCells_same _ _ _ _ hth3) Tryz.underlying233 rfl Tryz.size233) rfl ⟨by unfold tokc;rw [hq],?_,?_⟩
 ·exact P2.fr (S:=fun q=>q = w.heap.size) (fr_setCells (S:=fun q=>q = w.heap.size) rfl _ _ _ (Fr.refl _ _)) (by omega) (by omega) (fun q e=>by have:=ownsRow_lt HH.out.own1 q e;omega) (fun q e=>by have:=ownsRow_lt HH.out.own2 q e;omega)
 ·exact (fr_setCells (S:=fun q=>q = p ∨ q = w.heap.size) (.inr rfl) _ _ _ F2).mono (fun q hq e=>by omega)
end
end
section
open Go.RowKit
section
variable {base:Nat} {w w':World} {p tb tc N k:Nat} {T:Nat → Tok} {bu:Int} {tks:List Tk} {hd:List Tok} {sv hv:Value}
theorem numbers_is (I:Nat → World → Prop) (xb cx m:Nat) (A:Nat → Addr) (h0:0 < m) (hm:m ≤ 100) (hk:k + m < N) (hq:∀ i,i < m → (T (k + i)).kind = 2)
  (hI:∀ i w,i < m → I i w → ∃ bu,PW base w p tb tc N T (k + i) bu tks hd sv hv ∧ w.cell? ⟨xb,i,none⟩ = some (.pointer (some (A i))) ∧
   ∀ w',PW base w' p tb tc N T (k + i + 1) bu tks hd sv hv → Fr (· = p) w w' → (∃ u,w'.cell? (A i) = some u) ∧ w'.frozen? (A i) = false ∧ I (i + 1) (w'.setCell (A i) (.int .i64 (T (k + i)).value)))
  (hw:I 0 w):Calls Tryz.prog 172 #[.pointer (some ⟨p,0,none⟩),.slice (some ⟨xb,0,none⟩) m cx] w fun e w'=>e = .returned (.tuple #[]) ∧ I m w':=by
 have HI:=Lib.hid hI
 have HQ:=Lib.hid hq
 have HW:=Lib.hid hw
 clear hI hq hw
 have hf2:=fld2
 go_enter Tryz.func172,Tryz.ntmps172
 go_wp2_with fail
 go_loopw [8] (fun ix wx=>∃ i:Nat,i ≤ m ∧ ix = .int .i64 i ∧ Hid (I i wx)) (fun ix _=>m - (intOf ix).toNat)
 case atStart=>exact ⟨0,Nat.zero_le _,rfl,HW.out⟩
 case round =>
  obtain ⟨i,hi,rfl,HJ⟩:=hrel
  by_cases hlt:i < m
  ·have hiI:(i:Int) < (m:Int):=by omega
   have hi0:(0:Int) ≤ (i:Int):=by omega
   have hdl:decide ((i:Int) < (m:Int)) = true:=decide_eq_true hiI
   obtain ⟨bu,hp,hx,hn⟩:=HI.out i wr hlt HJ.out
   have HT:=Lib.hid (take_none hp (by omega) 2 (HQ.out i hlt))
   have HNX:=Lib.hid hn
   clear hp hn HI
   unfold tokc at HT
   go_wp2_with (go_at_call 171;refine HT.out.mono ?_;rintro e w1 ⟨rfl,hp1,f1⟩;obtain ⟨⟨u,hu⟩,hz,hj⟩:=HNX.out _ hp1 f1;have HJ2:=Lib.hid hj;clear hj hp1 f1)
   go_roundw
   case rel=>exact ⟨i + 1,by omega,by simp,HJ2.out⟩
   case measure=>simp [intOf];omega
  ·have him:i = m:=by omega
   subst him
   have hdl:decide ((i:Int) < (i:Int)) = false:=decide_eq_false (by omega)
   have HJ':=Lib.hid HJ.out
   go_wp2_with fail
   go_end0
   exact ⟨rfl,HJ.out⟩
theorem end_is (h:PW base w p tb tc N T k bu tks hd sv hv) (hk:k + 1 < N) (hq:(T k).kind = 3) :
  Calls Tryz.prog 173 #[.pointer (some ⟨p,0,none⟩)] w fun e w'=>e = .returned (.tuple #[]) ∧ PW base w' p tb tc N T (k + 1) bu tks hd sv hv ∧ Fr (fun q=>q = p) w w':=by
 have hf0:=fld0
 have c1:=h.c1
 have HN:=Lib.hid (now_is h (by omega))
 have HT:=Lib.hid (fun w' (hb:Below w.heap.size w w')=>take_none (h.below hb) hk 3 hq)
 clear h
 unfold tokc at HN
 rw [hq] at HN
 clear hq
 go_enter Tryz.func173,Tryz.ntmps173
 go_wp2_with (first | (go_at_call 129;refine HN.out.mono ?_;rintro e w1 ⟨rfl,hb1⟩) | (go_at_call 171;refine (HT.out _ hb1).mono ?_;rintro e w2 ⟨rfl,hp2,f2⟩))
 go_end0
 exact ⟨rfl,hp2,(Fr.of_below (S:=fun _=>False) hb1).trans f2 (fun _ _ e=>e.elim) (fun _ _ e=>e)⟩
theorem fz_setCells {b:Nat} {a:Addr}:∀ (l:List Value) (o:Nat) (w:World),(w.setCells b o l).frozen? a = w.frozen? a
 | [],_,_=>rfl
 | v :: r,o,w=>by
  show (World.setCells (w.setCell ⟨b,o,none⟩ v) b (o + 1) r).frozen? a = _
  rw [fz_setCells r (o + 1) _,World.frozen?_setCell]
theorem PW.setb (h:PW base w p tb tc N T k bu tks hd sv hv) (l:List Value) (hl:l.length = 5):PW base (w.setCells p 6 l) p tb tc N T k bu tks hd sv hv ∧ Fr (fun q=>q = p) w (w.setCells p 6 l):=by
 have hf:Fr (fun q=>q = p) w (w.setCells p 6 l):=fr_setCells (S:=fun q=>q = p) rfl _ _ _ (Fr.refl _ w)
 have c:∀ j,j < 6 ∨ 11 ≤ j → (w.setCells p 6 l).cell? ⟨p,j,none⟩ = w.cell? ⟨p,j,none⟩:=fun j hj=>cell_setCells_other _ _ _ (.inr (by rw [hl];omega))
 have hth:=th_setCells (b':=p) (o':=6) (n:=5) (b:=p) l 6 w h.cb
 have hpb:=h.pb
 refine ⟨⟨(c 0 (by omega)).trans h.c0,(c 1 (by omega)).trans h.c1,(c 2 (by omega)).trans h.c2,(c 3 (by omega)).trans h.c3,(c 4 (by omega)).trans h.c4,(c 5 (by omega)).trans h.c5,hth,(c 11 (by omega)).trans h.ch,
  own_fr2 h.own1 hf (fun q e=>by have:=ownsRow_block h.own1 q e;show ¬ q = p;omega),own_fr2 h.own2 hf (fun q e=>by have:=ownsRow_block h.own2 q e;show ¬ q = p;omega),h.ap,?_,fun i hi=>rg_fr hf (Nat.lt_of_lt_of_le h.tbb h.bl) h.ne (h.tk i hi),h.pb,h.tbb,h.ne,Nat.le_trans h.bl hf.size,h.cap⟩,hf⟩
 intro o
 rw [fz_setCells]
 exact h.fz o
theorem first_is (h:PW base w p tb tc N T k bu tks hd sv hv) (hk:k + 3 < N) (h1:(T k).kind = 1) (h2:(T k).text = [98,117,114,115,116]) (h3:(T (k + 1)).kind = 2) (h4:(T (k + 2)).kind = 3) :
  Calls Tryz.prog 128 #[.pointer (some ⟨p,0,none⟩)] w fun e w'=>e = .returned (.tuple #[]) ∧ PW base w' p tb tc N T (k + 3) (T (k + 1)).value tks hd sv hv ∧ Fr (fun q=>q = p) w w':=by
 have hbl:=h.bl
 have hpb:=h.pb
 have hbA:Below w.heap.size w (w.alloc (.cells #[.string ⟨#[98,117,114,115,116]⟩] 9)):=bel_alloc (Below.refl _ w) _
 have HT:=Lib.hid (take_some (h.below hbA) (by omega) 1 w.heap.size 1 1 (fun _=>⟨#[98,117,114,115,116]⟩) (by omega) (by omega) (fun j hj=>by { have hj0:j = 0:=(by omega);subst hj0;exact cell_newb _ _ _ _ 0 _ rfl rfl }) h1 ⟨0,by omega,by rw [h2];rfl,fun j hj=>by omega⟩)
 have HA:=Lib.hid hbA
 have HH:=Lib.hid h
 have HST:Hid (∀ w',PW base w' p tb tc N T (k + 1) bu tks hd sv hv → w'.there p 6 5):=fun w' h=>h.cb
 have HN:Hid (∀ w',PW base w' p tb tc N T (k + 1) bu tks hd sv hv → Calls Tryz.prog 129 #[.pointer (some ⟨p,0,none⟩)] w' _):=fun w' h=>now_is h (by omega)
 have HNUM:Hid (∀ w3,PW base w3 p tb tc N T (k + 1) bu tks hd sv hv → Calls Tryz.prog 172 #[.pointer (some ⟨p,0,none⟩),.slice (some ⟨w3.heap.size,0,none⟩) 1 1] (w3.alloc (.cells #[.pointer (some ⟨p,4,none⟩)] 271)) fun e w'=>e = .returned (.tuple #[]) ∧ PW base w' p tb tc N T (k + 2) (T (k + 1)).value tks hd sv hv ∧ Fr (fun q=>q = p) w3 w'):=fun w3 h3'=>by
  have hb3:=bel_alloc (Below.refl _ w3) (.cells #[.pointer (some ⟨p,4,none⟩)] 271)
  have hbl3:=h3'.bl
  refine (numbers_is (tks:=tks) (hd:=hd) (sv:=sv) (hv:=hv) (base:=base) (p:=p) (tb:=tb) (tc:=tc) (N:=N) (T:=T) (k:=k + 1) (fun i w'=>PW base w' p tb tc N T (k + 1 + i) (if i = 0 then bu else (T (k + 1)).value) tks hd sv hv ∧ w'.cell? ⟨w3.heap.size,0,none⟩ = some (.pointer (some ⟨p,4,none⟩)) ∧ Fr (fun q=>q = p) w3 w')
   w3.heap.size 1 1 (fun _=>⟨p,4,none⟩) (by omega) (by omega) (by omega) (fun i hi=>by { have hi0:i = 0:=(by omega);subst hi0;exact h3 }) ?_ ⟨h3'.below hb3,cell_newb _ _ _ _ 0 _ rfl rfl,Fr.of_below hb3⟩).mono fun e w' ⟨he,h1,h2,h3⟩=>⟨he,h1,h3⟩
  intro i w' hi hI
  obtain rfl:i = 0:=by omega
  obtain ⟨g1,g2,g3⟩:=hI
  refine ⟨_,g1,g2,fun w'' hp f=>⟨⟨_,hp.c4⟩,hp.fz 4,?_,?_,?_⟩⟩
  ·exact hp.set 4 _ (k + 1 + 1) _ (.inr rfl) (by rw [World.cell?_setCell_other _ _ _ _ (addr_ne (by omega))];exact hp.c0) (by rw [World.cell?_setCell_same _ _ _ hp.c4];rfl)
  ·rw [World.cell?_setCell_other _ _ _ _ (addr_ne' (by omega))]
   exact (f.cell (p:=⟨w3.heap.size,0,none⟩) (block_lt g2) (by show ¬ w3.heap.size = p;omega)).trans g2
  ·exact (g3.trans f (fun _ _ e=>e) (fun _ _ e=>e)).setCell (p:=⟨p,4,none⟩) rfl _
 have HEND:Hid (∀ w4,PW base w4 p tb tc N T (k + 2) (T (k + 1)).value tks hd sv hv → Calls Tryz.prog 173 #[.pointer (some ⟨p,0,none⟩)] w4 _):=fun w4 h=>end_is h (by omega) h4
 clear h hbA h1 h2 h3 h4
 go_enter Tryz.func128,Tryz.ntmps128
 go_wp2_with (first
  |(go_at_call 171;refine HT.out.mono ?_;rintro e w1 ⟨rfl,hp1,f1⟩;have HP1:=Lib.hid hp1;have HF1:=Lib.hid f1;clear hp1 f1)
  |(go_at_call 129;refine (HN.out _ HP1.out).mono ?_;rintro e w2 ⟨rfl,hb2⟩;have HP2:=Lib.hid (HP1.out.below hb2);have HB2:=Lib.hid hb2;have hth2:=HP2.out.cb;clear hb2)
  |(refine wpList_store_mid rfl 233 _ _ rfl p 6 _ rfl rfl hth2 Tryz.size233 (by simp [Value.oneCell',tokc]) ?_
    clear hth2
    obtain ⟨hp3,f3⟩:=HP2.out.setb (tokc (T (k + 1))) rfl
    try simp only [List.toList_toArray]
    generalize w2.setCells p 6 (tokc (T (k + 1))) = w3 at hp3 f3 ⊢
    have HP3:=Lib.hid hp3
    have HF3:=Lib.hid f3
    clear hp3 f3)
  |(go_at_call 172;refine (HNUM.out _ HP3.out).mono ?_;rintro e w4 ⟨rfl,hp4,f4⟩;have HP4:=Lib.hid hp4;have HF4:=Lib.hid f4;clear hp4 f4)
  |(go_at_call 173;refine (HEND.out _ HP4.out).mono ?_;rintro e w5 ⟨rfl,hp5,f5⟩))
 go_end0
 exact ⟨rfl,hp5,((((Fr.of_below (S:=fun q=>q = p) HA.out).trans HF1.out (U:=fun q=>q = p) (fun _ _ e=>e) (fun _ _ e=>e)).trans (Fr.of_below (S:=fun q=>q = p) HB2.out) (U:=fun q=>q = p) (fun _ _ e=>e) (fun _ _ e=>e)).trans HF3.out (U:=fun q=>q = p) (fun _ _ e=>e) (fun _ _ e=>e)).trans (HF4.out.trans f5 (U:=fun q=>q = p) (fun _ _ e=>e) (fun _ _ e=>e)) (fun _ _ e=>e) (fun _ _ e=>e)⟩
end
end
end Go.Proofs.YtnoahekcemfmcaaGreatDoor
