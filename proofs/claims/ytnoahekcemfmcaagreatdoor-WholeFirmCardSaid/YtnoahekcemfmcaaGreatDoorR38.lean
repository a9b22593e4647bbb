/- A part of the walk: Tc Td Te Tf. -/
import Derived.Test.YtnoahekcemfmcaaGreatDoorR37
import Derived.Test.YtnoahekcemfmcaaGreatDoorR29
import Derived.Laws.IdiomStrings
import Derived.Test.YtnoahekcemfmcaaGreatDoorR28
namespace Go.Proofs.YtnoahekcemfmcaaGreatDoor
set_option linter.unusedVariables false
set_option linter.unusedSimpArgs false
set_option maxHeartbeats 80000000
set_option maxRecDepth 100000
section
open Go.RowKit
def setTo (b:ByteArray) (TS:Nat → ByteArray):Nat → ByteArray
 | 0=>⟨#[98,117,114,115,116,32]⟩ ++ b ++ ⟨#[10]⟩
 | k + 1=>setTo b TS k ++ TS k ++ ⟨#[10]⟩
theorem setTo_size (b:ByteArray) (TS:Nat → ByteArray) (hb:b.size ≤ 2) (k:Nat) (h:∀ i,i < k → (TS i).size ≤ 100):(setTo b TS k).size ≤ 9 + k * 101:=by
 induction k with
 | zero=>unfold setTo;simp only [ByteArray.size_append];rw [show (⟨#[98,117,114,115,116,32]⟩:ByteArray).size = 6 from rfl,show (⟨#[10]⟩:ByteArray).size = 1 from rfl];omega
 | succ k ih =>
  have h1:=ih fun i hi=>h i (by omega)
  have h2:=h k (by omega)
  unfold setTo;simp only [ByteArray.size_append];rw [show (⟨#[10]⟩:ByteArray).size = 1 from rfl];omega
theorem rset_any (B:Nat) (bu:Nat) (a:Option Addr) (n c:Nat) (tk:Nat → Tk) (TS:Nat → ByteArray) (w:World) (hx:TksIn B w a n tk) (hB:B ≤ w.heap.size) (hn:n ≤ 16) (hbu:bu < 100)
  (hT:∀ k,k < n → ∀ w,Calls Tryz.prog 84 #[tkv (tk k)] w fun e w'=>e = .returned (.string (TS k)) ∧ Below w.heap.size w w') (hs:∀ i,i < n → (TS i).size ≤ 100) :
  Calls Tryz.prog 50 #[.agg #[.int .i64 bu,.slice a n c]] w fun e w'=>e = .returned (.string (setTo (numS bu) TS n)) ∧ Below w.heap.size w w':=by
 obtain ⟨b0,e0⟩:∃ b,numS bu = b:=⟨_,rfl⟩
 have hb2:b0.size ≤ 2:=e0 ▸ numS_size bu
 have HN:=Lib.hid (fun w=>number_any bu w hbu)
 rw [e0] at HN ⊢
 have hz:=fun k (hk:k ≤ n)=>setTo_size b0 TS hb2 k (fun i hi=>hs i (by omega))
 have hb0:=bel_alloc (Below.refl w.heap.size w) (.cells #[.int .i64 bu,.slice a n c] 24)
 have hx1:=Lib.hid (hx.keep (hb0.mono hB))
 have hbox0:=cell_newb w #[.int .i64 bu,.slice a n c] 24 _ 0 _ rfl rfl
 have hbox1:=cell_newb w #[.int .i64 bu,.slice a n c] 24 _ 1 _ rfl rfl
 have hsz:=one_lt w (.cells #[.int .i64 bu,.slice a n c] 24)
 have HT:=Lib.hid hT
 have n1:¬ 9223372036854775807 < 6 + b0.size:=by omega
 have n2:¬ 9223372036854775807 < 6 + b0.size + 1:=by omega
 clear hx hT e0
 generalize (bu:Int) = bu' at *
 go_enter Tryz.func50,Tryz.ntmps50
 go_wp2_with (go_at_call 83;refine (HN.out _).mono ?_;rintro e w2 ⟨rfl,g2⟩;have hb2':=g2.below;have hbx1:=cell_bel hb2' hbox1)
 have HB0:=Lib.hid (hb0.trans (hb2'.mono hb0.size))
 have HX:=Lib.hid (hx1.out.keep (hb2'.mono (Nat.le_trans hB hb0.size)))
 clear hb0 hb2' g2 hbox0 hbox1 hx1
 have hst:setTo b0 TS 0 = ⟨#[98,117,114,115,116,32]⟩ ++ b0 ++ ⟨#[10]⟩:=rfl
 go_loopw [4,3] (fun ix s3 wx=>∃ k:Nat,k ≤ n ∧ ix = .int .i64 k ∧ s3 = .string (setTo b0 TS k) ∧ Hid (Below w2.heap.size w2 wx)) (fun ix _ _=>n - (intOf ix).toNat)
 case atStart=>exact ⟨0,Nat.zero_le _,rfl,rfl,Below.refl _ _⟩
 case round =>
  obtain ⟨k,hk,rfl,rfl,HW⟩:=hrel
  have hbx:=cell_bel HW.out hbx1
  by_cases hlt:k < n
  ·have hkI:(k:Int) < (n:Int):=by omega
   have hk0:(0:Int) ≤ (k:Int):=by omega
   have hdl:decide ((k:Int) < (n:Int)) = true:=decide_eq_true hkI
   obtain ⟨b,off,rfl,hbB,hcc⟩:=HX.out (by omega)
   have hw2:B ≤ w2.heap.size:=Nat.le_trans hB HB0.out.size
   have hrg:=rg_below (HW.out.mono hw2) hbB (hcc k hlt)
   have HC:=Lib.hid (HT.out k hlt)
   have hz1:=hz k hk
   have hz2:=hs k hlt
   have hsz2:(setTo b0 TS k ++ TS k).size = (setTo b0 TS k).size + (TS k).size:=ByteArray.size_append
   have hstep:setTo b0 TS (k + 1) = setTo b0 TS k ++ TS k ++ ⟨#[10]⟩:=rfl
   have HST:=Lib.hid hstep
   obtain ⟨X,hX⟩:∃ X,setTo b0 TS k = X:=⟨_,rfl⟩
   obtain ⟨Y,hY⟩:∃ X,TS k = X:=⟨_,rfl⟩
   rw [hX,hY] at HST
   rw [hX] at hz1
   rw [hY] at hz2 HC
   rw [hX]
   have m1:¬ 9223372036854775807 < X.size + Y.size:=by omega
   have m2:¬ 9223372036854775807 < X.size + Y.size + 1:=by omega
   clear hcc hstep hsz2 hX hY hz
   go_wp2_with (first | (refine wpList_load_mid rfl 41 _ rfl b (off + k * 11) rfl (tkc (tk k)) _ hrg Tryz.underlying41 rfl Tryz.size41 ?_) | (go_at_call 84;refine (HC.out _).mono ?_;rintro e w3 ⟨rfl,hb3⟩))
   go_roundw
   case rel=>exact ⟨k + 1,by omega,by simp,by rw [HST.out],HW.out.trans (hb3.mono HW.out.size)⟩
   case measure=>simp [intOf];omega
  ·have hkn:k = n:=by omega
   subst hkn
   have hdl:decide ((k:Int) < (k:Int)) = false:=decide_eq_false (by omega)
   clear hz
   go_wp2_with fail
   go_ret
   exact ⟨rfl,HB0.out.trans (HW.out.mono HB0.out.size)⟩
theorem cell_rowb (w:World) (cs:Array Value) (T:TypeId) (r:Nat × Nat) (b j:Nat) (u:Value) (hb:b = w.heap.size) (h:cs.toList[j]? = some u):(w.alloc (.cells cs T r)).cell? ⟨b,j,none⟩ = some u:=by
 subst hb
 have h':cs[j]? = some u:=by simpa using h
 show (match (w.heap.push (.cells cs T r))[w.heap.size]? with | some (.cells c _ _)=>if (none:Option Nat).isSome then none else c[j]? | _=>none) = some u
 simp [h']
def BytesIn (w:World) (b off:Nat) (l:List Int):Prop:=∀ j (h:j < l.length),w.cell? ⟨b,off + j,none⟩ = some (.int .u8 l[j])
theorem bytesRow_at (l:List Int) (cap j:Nat) (h:j < l.length) (hl:∀ x ∈ l,0 ≤ x ∧ x < 256):(bytesRow (strOfNums l) cap).toList[j]? = some (.int .u8 l[j]):=by
 unfold bytesRow strOfNums
 simp only [Array.toList_append,Array.toList_map,List.map_map]
 rw [List.getElem?_append_left (by simpa using h),List.getElem?_map,List.getElem?_eq_getElem h]
 have:=hl l[j] (List.getElem_mem h)
 simp only [Option.map_some,Function.comp]
 congr 2
 have h2:(UInt8.ofNat l[j].toNat).toNat = l[j].toNat:=by rw [UInt8.toNat_ofNat'];omega
 rw [h2];omega
theorem text_any (B:Nat) (bu:Nat) (a:Option Addr) (n c:Nat) (tk:Nat → Tk) (TS:Nat → ByteArray) (w:World) (hx:TksIn B w a n tk) (hB:B ≤ w.heap.size) (hn:n ≤ 16) (hbu:bu < 100)
  (hT:∀ k,k < n → ∀ w,Calls Tryz.prog 84 #[tkv (tk k)] w fun e w'=>e = .returned (.string (TS k)) ∧ Below w.heap.size w w') (hs:∀ i,i < n → (TS i).size ≤ 100) (l:List Int) (hl:∀ x ∈ l,0 ≤ x ∧ x < 256) (hS:setTo (numS bu) TS n = strOfNums l) :
  Calls Tryz.prog 23 #[.agg #[.int .i64 bu,.slice a n c]] w fun e w'=>(∃ b cp,e = .returned (.slice (some ⟨b,0,none⟩) l.length cp) ∧ w.heap.size ≤ b ∧ b < w'.heap.size ∧ BytesIn w' b 0 l) ∧ Below w.heap.size w w':=by
 have hb0:=bel_alloc (Below.refl w.heap.size w) (.cells #[.int .i64 bu,.slice a n c] 24)
 have H:=Lib.hid (rset_any B bu a n c tk TS (w.alloc (.cells #[.int .i64 bu,.slice a n c] 24)) (hx.keep (hb0.mono hB)) (Nat.le_trans hB hb0.size) hn hbu hT hs)
 have HB:=Lib.hid hb0
 have hcv:=fun w s=>run_bytes_of_string (P:=Tryz.prog) w 9 72 5 s Tryz.underlying9 Tryz.underlying72 Tryz.underlying5
 clear hx hT hb0
 go_enter Tryz.func23,Tryz.ntmps23
 go_wp2_with (go_at_call 50;refine H.out.mono ?_;rintro e w2 ⟨rfl,hb2⟩)
 rw [strOfNums_size]
 go_ret
 have h3:=HB.out.trans (hb2.mono HB.out.size)
 exact ⟨⟨w2.heap.size,_,rfl,h3.size,by simp,fun j hj=>by rw [World.cell?_drew,Nat.zero_add];exact cell_rowb _ _ _ _ _ _ _ rfl (bytesRow_at l _ j hj hl)⟩,bel_drew (bel_alloc h3 _)⟩
end
section
open Go.RowKit
theorem Tryz.info5:(Tryz.prog.info? 5).map (fun i=>(i.zero,i.size,i.bytes)) = some (some (.int .u8 0),1,1):=by kernel_rfl
def u8s (l:List Int):List Value:=l.map (Value.int .u8)
theorem clone_b (b n c:Nat) (l:List Int) (w:World) (hl:l.length = n) (h0:0 < n) (hn:n ≤ 1000) (hx:BytesIn w b 0 l) :
  Calls Tryz.prog 49 #[.slice (some ⟨b,0,none⟩) n c] w fun e w'=>∃ v,e = .returned v ∧ w'.ownsRow w.heap.size 5 1 v n (u8s l) ∧ Below w.heap.size w w':=by
 have R:=fun w:World=>Lib.run_eql_slice_nil (P:=Tryz.prog) w 72 5 (some ⟨b,0,none⟩) n c 0 0 Tryz.underlying72
 obtain ⟨i0,ki,kz0,kz1,kz2⟩:=info_parts Tryz.info5
 have HS:Hid (Src (w.alloc (.cells #[] 5)) (.slice (some ⟨b,0,none⟩) n c) n (u8s l)):=.inr ⟨⟨b,0,none⟩,c,rfl,fun j u hu=>by
  unfold u8s at hu
  have hj:j < l.length:=by
   have:=(List.getElem?_eq_some_iff.1 hu).1
   simpa using this
  rw [List.getElem?_map,List.getElem?_eq_getElem hj] at hu
  simp only [Option.map_some,Option.some.injEq] at hu
  subst hu
  have:=hx j hj
  rw [add_none]
  exact cell_bel (bel_alloc (Below.refl _ _) _) this⟩
 have hlen:(u8s l).length = n * 1:=by unfold u8s;rw [List.length_map,hl];omega
 have hone:∀ u ∈ u8s l,u.oneCell' = true:=fun u hu=>by
  unfold u8s at hu
  obtain ⟨x,_,rfl⟩:=List.mem_map.1 hu
  rfl
 clear hx
 go_enter Tryz.func49,Tryz.ntmps49
 go_wp2_with (at_builtin;refine wpList_append_row rfl _ _ 72 rfl w.heap.size 5 i0 _ 1 1 Tryz.underlying72 ki kz0 kz1 kz2 rfl (by omega) (.slice (some ⟨w.heap.size,0,none⟩) 0 0) 0 [] rfl (World.ownsRow_lit (size:=1) (e:=5) w #[] 0 (Nat.le_refl _) (Nat.zero_le _) rfl) _ n (u8s l) rfl hlen HS.out hone (by unfold maxLen;omega) (by omega) (by simp) ?_)
 intro v5 w5 hown5 hg5 _
 have HO5:=Lib.hid hown5
 have HB5:Hid (Below w.heap.size w w5):=Below.grown ((Below.refl _ w).alloc (Nat.le_refl _) _) hg5 (by simp) fun k e=>by simp [Value.ownBlock] at e;omega
 clear hown5 hg5
 go_wp2_with fail
 go_ret
 exact ⟨v5,rfl,by simpa using HO5.out,HB5.out⟩
def adm0 (v:Value):Array Value:=#[v,.int .u32 0,.int .i32 0,.int .u32 0,.int .i64 0,.int .i64 0,.slice none 0 0,.int .i64 0,.int .i64 0,.int .i64 0,.int .i64 0,.bool false,.int .i64 0,.slice none 0 0,.int .i64 0]
theorem BytesIn.keep {T:Nat → Prop} {w w':World} {b off:Nat} {l:List Int} (h:BytesIn w b off l) (h0:0 < l.length) (hf:Fr T w w') (hT:¬ T b):BytesIn w' b off l:=fun j hj =>
 (hf.cell (p:=⟨b,off + j,none⟩) (block_lt (h j hj)) hT).trans (h j hj)
theorem anew_any (b n c:Nat) (l:List Int) (w:World) (hl:l.length = n) (h0:0 < n) (hn:n ≤ 1000) (hx:BytesIn w b 0 l) :
  Calls Tryz.prog 22 #[.slice (some ⟨b,0,none⟩) n c] w fun e w'=>∃ tb tc ab w1,e = .returned (.pointer (some ⟨ab,0,none⟩)) ∧ w' = w1.alloc (.cells (adm0 (.slice (some ⟨tb,0,none⟩) n tc)) 132) ∧ ab = w1.heap.size ∧ w.heap.size ≤ tb ∧ tb < w1.heap.size ∧ n ≤ tc ∧ BytesIn w1 tb 0 l ∧ Below w.heap.size w w1:=by
 have H:=Lib.hid (clone_b b n c l w hl h0 hn hx)
 clear hx
 go_enter Tryz.func22,Tryz.ntmps22
 go_wp2_with (go_at_call 49;refine H.out.mono ?_;rintro e w2 ⟨v,rfl,ho,hb2⟩;obtain ⟨g,cap,rfl,hg1,hg2,hg3,hg4,hg5⟩:=ownsRow_cells ho h0)
 go_ret
 refine ⟨g,cap,_,w2,rfl,rfl,rfl,hg1,hg2,hg3,fun j hj=>?_,hb2⟩
 rw [Nat.zero_add]
 refine hg4 j _ ?_
 unfold u8s
 rw [List.getElem?_map,List.getElem?_eq_getElem hj]
 rfl
end
section
open Go.RowKit
theorem small_is (c:Int) (w:World):Calls Tryz.prog 197 #[.int .u8 c] w fun e w'=>e = .returned (.bool (smallB c)) ∧ w' = w:=by
 unfold smallB
 by_cases h1:97 ≤ c
 ·have d1:decide (c ≥ 97) = true:=decide_eq_true h1
  by_cases h2:c ≤ 122
  ·have d2:decide (c ≤ 122) = true:=decide_eq_true h2
   go_enter Tryz.func197,Tryz.ntmps197
   go_wp2
   go_ret
   exact ⟨by simp [h1,h2],rfl⟩
  ·have d2:decide (c ≤ 122) = false:=decide_eq_false h2
   go_enter Tryz.func197,Tryz.ntmps197
   go_wp2
   go_ret
   exact ⟨by simp [h2],rfl⟩
 ·have d1:decide (c ≥ 97) = false:=decide_eq_false h1
  go_enter Tryz.func197,Tryz.ntmps197
  go_wp2
  go_ret
  exact ⟨by simp [h1],rfl⟩
theorem digit_is (c:Int) (w:World):Calls Tryz.prog 200 #[.int .u8 c] w fun e w'=>e = .returned (.bool (digitB c)) ∧ w' = w:=by
 unfold digitB
 by_cases h1:48 ≤ c
 ·have d1:decide (c ≥ 48) = true:=decide_eq_true h1
  by_cases h2:c ≤ 57
  ·have d2:decide (c ≤ 57) = true:=decide_eq_true h2
   go_enter Tryz.func200,Tryz.ntmps200
   go_wp2
   go_ret
   exact ⟨by simp [h1,h2],rfl⟩
  ·have d2:decide (c ≤ 57) = false:=decide_eq_false h2
   go_enter Tryz.func200,Tryz.ntmps200
   go_wp2
   go_ret
   exact ⟨by simp [h2],rfl⟩
 ·have d1:decide (c ≥ 48) = false:=decide_eq_false h1
  go_enter Tryz.func200,Tryz.ntmps200
  go_wp2
  go_ret
  exact ⟨by simp [h1],rfl⟩
theorem inWord_is (c:Int) (w:World):Calls Tryz.prog 199 #[.int .u8 c] w fun e w'=>e = .returned (.bool (inWordB c)) ∧ w' = w:=by
 have H1:=Lib.hid (small_is c)
 have H2:=Lib.hid (digit_is c)
 unfold inWordB
 cases h1:smallB c
 ·cases h2:digitB c
  ·rw [h1] at H1
   rw [h2] at H2
   go_enter Tryz.func199,Tryz.ntmps199
   go_wp2_with (first | (go_at_call 197;refine (H1.out _).mono ?_;rintro e w1 ⟨rfl,rfl⟩) | (go_at_call 200;refine (H2.out _).mono ?_;rintro e w2 ⟨rfl,rfl⟩))
   go_ret
   exact ⟨by simp only [Bool.false_or];congr 2,rfl⟩
  ·rw [h1] at H1
   rw [h2] at H2
   go_enter Tryz.func199,Tryz.ntmps199
   go_wp2_with (first | (go_at_call 197;refine (H1.out _).mono ?_;rintro e w1 ⟨rfl,rfl⟩) | (go_at_call 200;refine (H2.out _).mono ?_;rintro e w2 ⟨rfl,rfl⟩))
   go_ret
   exact ⟨by simp,rfl⟩
 ·rw [h1] at H1
  go_enter Tryz.func199,Tryz.ntmps199
  go_wp2_with (first | (go_at_call 197;refine (H1.out _).mono ?_;rintro e w1 ⟨rfl,rfl⟩) | (go_at_call 200;refine (H2.out _).mono ?_;rintro e w2 ⟨rfl,rfl⟩))
  go_ret
  exact ⟨by simp,rfl⟩
def tokc (t:Tok):List Value:=[.int .i64 t.kind,.string (strOfNums t.text),.int .i64 t.value,.int .i64 t.line,.int .i64 t.col]
structure RdW (base:Nat) (w:World) (r b c:Nat) (bs:List Int) (st:Rdr) (so:Value):Prop where
 c0:w.cell? ⟨r,0,none⟩ = some (.slice (some ⟨b,0,none⟩) bs.length c)
 c1:w.cell? ⟨r,1,none⟩ = some (.int .i64 st.at_)
 c2:w.cell? ⟨r,2,none⟩ = some (.int .i64 st.line)
 c3:w.cell? ⟨r,3,none⟩ = some (.int .i64 st.col)
 c4:w.cell? ⟨r,4,none⟩ = some so
 own:w.ownsRow base 233 5 so st.out.length (st.out.flatMap tokc)
 fz:∀ o,w.frozen? ⟨r,o,none⟩ = false
 by_:BytesIn w b 0 bs
 rb:r < base
 bb:b < base
 ne:b ≠ r
 base_le:base ≤ w.heap.size
 cap:bs.length ≤ c
section
variable {base:Nat} {w w':World} {r b c:Nat} {bs:List Int} {st:Rdr} {so:Value}
theorem RdW.below (h:RdW base w r b c bs st so) (hb:Below w.heap.size w w'):RdW base w' r b c bs st so :=
 ⟨cell_bel hb h.c0,cell_bel hb h.c1,cell_bel hb h.c2,cell_bel hb h.c3,cell_bel hb h.c4,ownsRow_keep h.own (fun k hk=>hb.block k (ownsRow_lt h.own k hk)),fun o=>((Fr.of_below (S:=fun _=>False) hb).frozen (p:=⟨r,o,none⟩) (show r < _ from block_lt h.c0) (by simp)).trans (h.fz o),
  fun j hj=>cell_bel hb (h.by_ j hj),h.rb,h.bb,h.ne,Nat.le_trans h.base_le hb.size,h.cap⟩
theorem RdW.set (h:RdW base w r b c bs st so) (j:Nat) (u:Value) (st2:Rdr) (ho:st2.out = st.out) (h1:(w.setCell ⟨r,j,none⟩ u).cell? ⟨r,1,none⟩ = some (.int .i64 st2.at_)) (h2:(w.setCell ⟨r,j,none⟩ u).cell? ⟨r,2,none⟩ = some (.int .i64 st2.line))
  (h3:(w.setCell ⟨r,j,none⟩ u).cell? ⟨r,3,none⟩ = some (.int .i64 st2.col)) (h0:j ≠ 0) (h4:j ≠ 4):RdW base (w.setCell ⟨r,j,none⟩ u) r b c bs st2 so :=
 ⟨by rw [World.cell?_setCell_other _ _ _ _ (addr_ne (by omega))];exact h.c0,h1,h2,h3,by rw [World.cell?_setCell_other _ _ _ _ (addr_ne (by omega))];exact h.c4,
  by rw [ho];exact ownsRow_keep h.own (fun k hk=>by have:=ownsRow_block h.own k hk;have:=h.rb;exact Below.heap_setCell _ _ _ _ (by show k ≠ r;omega)),fun o=>by rw [World.frozen?_setCell];exact h.fz o,
  fun j hj=>by rw [World.cell?_setCell_other _ _ _ _ (addr_ne' (Ne.symm h.ne))];exact h.by_ j hj,h.rb,h.bb,h.ne,by simpa [World.setCell] using h.base_le,h.cap⟩
end
theorem runL_le (f:Int → Bool) (l:List Int):runL f l ≤ l.length:=by
 induction l with
 | nil=>exact Nat.le_refl _
 | cons c l ih=>unfold runL;split <;> simp <;> omega
theorem runL_get (f:Int → Bool) (l:List Int) (i:Nat) (hi:i < l.length) (h:i < runL f l):f l[i] = true:=by
 induction l generalizing i with
 | nil=>simp at hi
 | cons c l ih =>
  unfold runL at h
  split at h
  ·rename_i hc
   cases i with
   | zero=>exact hc
   | succ i=>exact ih i (by simpa using hi) (by omega)
  ·omega
theorem runL_end (f:Int → Bool) (l:List Int) (hi:runL f l < l.length):f l[runL f l] = false:=by
 induction l with
 | nil=>simp at hi
 | cons c l ih =>
  cases hc:f c
  ·have:runL f (c :: l) = 0:=by unfold runL;rw [hc];rfl
   simp only [this,List.getElem_cons_zero,hc]
  ·have:runL f (c :: l) = runL f l + 1:=by show (if f c then runL f l + 1 else 0) = _;rw [if_pos hc]
   simp only [this,List.getElem_cons_succ]
   exact ih (by rw [this] at hi;simpa using hi)
def cellNat (w:World) (a:Addr):Nat:=match w.cell? a with | some (.int _ x)=>x.toNat | _=>0
theorem cellNat_of {w:World} {a:Addr} {k:IntKind} {n:Nat} (h:w.cell? a = some (.int k n)):cellNat w a = n:=by unfold cellNat;rw [h];rfl
theorem take_is {base:Nat} {w:World} {r b c:Nat} {bs:List Int} {st:Rdr} {so:Value} (F:Nat) (g:Int → Bool) (hF:∀ c w,Calls Tryz.prog F #[.int .u8 c] w fun e w'=>e = .returned (.bool (g c)) ∧ w' = w) (hE:∀ (x:Value) (w:World),Sem.run Tryz.prog (callFunc F #[x]) w = .ok (.enter F #[x]) w)
  (h:RdW base w r b c bs st so) (hbs:bs.length ≤ 1000) (hpos:0 < runL g (bs.drop st.at_)) (hend:st.at_ + runL g (bs.drop st.at_) < bs.length) (hcol:0 ≤ st.col) (hcol2:st.col ≤ 100000) :
  Calls Tryz.prog 198 #[.pointer (some ⟨r,0,none⟩),.func (.func F) #[] #[]] w fun e w'=>e = .returned (.string (strOfNums ((bs.drop st.at_).take (runL g (bs.drop st.at_))))) ∧
   RdW base w' r b c bs ⟨st.at_ + runL g (bs.drop st.at_),st.line,st.col + (runL g (bs.drop st.at_):Nat),st.out⟩ so ∧ Fr (· = r) w w':=by
 have hm:Tryz.prog.follows .mixedOrders = true:=by kernel_rfl
 obtain ⟨m,hmm⟩:∃ m,runL g (bs.drop st.at_) = m:=⟨_,rfl⟩
 have hm1:m ≤ bs.length - st.at_:=by have:=runL_le g (bs.drop st.at_);rw [List.length_drop] at this;omega
 have hg1:∀ i,i < m → ∀ (hi:st.at_ + i < bs.length),g bs[st.at_ + i] = true:=fun i hi h2=>by
  have:=runL_get g (bs.drop st.at_) i (by rw [List.length_drop];omega) (by omega)
  rwa [List.getElem_drop] at this
 have hg2:∀ (hi:st.at_ + m < bs.length),g bs[st.at_ + m] = false:=fun hi=>by
  have:=runL_end g (bs.drop st.at_) (by rw [List.length_drop];omega)
  simp only [hmm] at this
  rwa [List.getElem_drop] at this
 rw [hmm] at hpos hend ⊢
 clear hmm
 obtain ⟨at_,line,col,out⟩:=st
 simp only at *
 have HF:=Lib.hid hF
 clear hF
 have H0:=Lib.hid h
 have hc1:=h.c1
 clear h
 go_enter Tryz.func198,Tryz.ntmps198
 go_wp2_with fail
 go_loopw [] (fun wx=>∃ i:Nat,i ≤ m ∧ Hid (RdW base wx r b c bs ⟨at_ + i,line,col,out⟩ so ∧ Fr (· = r) w wx)) (fun wx=>at_ + m - cellNat wx ⟨r,1,none⟩)
 case atStart=>exact ⟨0,Nat.zero_le _,H0.out,Fr.refl _ _⟩
 case round =>
  obtain ⟨i,hi,HW⟩:=hrel
  obtain ⟨k,hk⟩:∃ k,at_ + i = k:=⟨_,rfl⟩
  rw [hk] at HW
  have kk0:=fun d os=>cell_regrown HW.out.1.c0 d os
  have kk1:=fun d os=>cell_regrown HW.out.1.c1 d os
  have kk3:=fun d os=>cell_regrown HW.out.1.c3 d os
  have hcap:=HW.out.1.cap
  have HC1:=Lib.hid HW.out.1.c1
  have hk0:(0:Int) ≤ (k:Int):=by omega
  simp only at kk1 kk3
  by_cases hin:k < bs.length
  ·have hinI:(k:Int) < (bs.length:Int):=by omega
   have hdl:decide ((k:Int) < (bs.length:Int)) = true:=decide_eq_true hinI
   have kb:=fun d os=>cell_regrown (HW.out.1.by_ k hin) d os
   simp only [Nat.zero_add] at kb
   obtain ⟨gv,hgv⟩:∃ v,g bs[k] = v:=⟨_,rfl⟩
   have HC:Hid (∀ d os,Calls Tryz.prog F #[.int .u8 bs[k]] (Sort.grow (redrawn wr d) os) fun e w''=>e = .returned (.bool gv) ∧ ∃ p:Regrown,w'' = Sort.grow (redrawn wr p.d) p.os):=fun d os =>
    Calls.regrown_of ((HF.out bs[k] _).mono fun e w' ⟨a,b⟩=>⟨hgv ▸ a,b ▸ Below.refl _ _⟩)
   have HGV:=Lib.hid hgv
   have HK:=Lib.hid hk
   clear hgv hk
   go_wp2_with fail
   refine wp_region_quiet_below hm (by kernel_rfl) ?_
   repeat (quiet_step (exact HC.out _ _))
   refine wpQuiet_nil ?_
   intro _ hw'
   obtain ⟨⟨dq,osq⟩,hw''⟩:=hw'
   subst hw''
   have hbq:=below_regrown wr dq osq
   have HW2:=Lib.hid (HW.out.1.below hbq)
   have HF2:=Lib.hid (HW.out.2.trans (Fr.of_below (S:=fun _=>False) hbq) (fun _ _ h=>h) (fun _ _ h=>h.elim))
   clear kk0 kk1 kk3 kb HC HW hbq
   generalize Sort.grow (redrawn wr dq) osq = w2 at HW2 HF2 ⊢
   have c1:=HW2.out.c1
   have z1:=HW2.out.fz 1
   cases gv
   ·have him:i = m:=by
     rcases Nat.lt_or_ge i m with h | h
     ·have:=hg1 i h (by have:=HK.out;omega)
      have h2:=HGV.out
      have h3:=HK.out
      subst h3
      rw [this] at h2;cases h2
     ·omega
    have hkm:k = at_ + m:=by rw [← him];exact HK.out.symm
    have c3:=HW2.out.c3
    have z3:=HW2.out.fz 3
    have hsub:(k:Int) - (at_:Int) = (m:Int):=by omega
    have hmI:(m:Int) ≤ 1000:=by omega
    have hm0:(0:Int) ≤ (m:Int):=by omega
    go_wp2_with fail
    go_region
    have HW3:=HW2.out.set 3 (.int .i64 (col + ((at_:Int) + (m:Int) - (at_:Int)))) ⟨at_ + m,line,col + (m:Nat),out⟩ rfl (by rw [World.cell?_setCell_other _ _ _ _ (addr_ne (by omega))];have:=HW2.out.c1;simp only [hkm] at this;exact this) (by rw [World.cell?_setCell_other _ _ _ _ (addr_ne (by omega))];exact HW2.out.c2) (by rw [World.cell?_setCell_same _ _ _ c3];congr 2;simp only;omega) (by omega) (by omega)
    have HW4:=Lib.hid (HW3.below (bel_drew (Below.refl _ _)))
    have HF4:=Lib.hid ((HF2.out.setCell (p:=⟨r,3,none⟩) rfl (.int .i64 (col + ((at_:Int) + (m:Int) - (at_:Int))))).drew)
    clear HW3 HF2 HW2 c1 z1 c3 z3
    generalize (w2.setCell ⟨r,3,none⟩ (.int .i64 (col + ((at_:Int) + (m:Int) - (at_:Int))))).drew = w4 at HW4 HF4 ⊢
    have q0:=fun d os=>cell_regrown HW4.out.c0 d os
    have q1:=fun d os=>cell_regrown HW4.out.c1 d os
    have a3:¬ c = at_:=by omega
    have a4:((at_:Int) + (m:Int)).toNat - at_ = m:=by omega
    have a0:(0:Int) ≤ (at_:Int):=by omega
    have a1:(at_:Int) ≤ (at_:Int) + (m:Int):=by omega
    have a2:(at_:Int) + (m:Int) ≤ (c:Int):=by omega
    simp only at q1
    have kc:∀ d os,Sem.run Tryz.prog (convert 72 9 (.slice (some ⟨b,at_,none⟩) m (c - at_))) (Sort.grow (redrawn w4 d) os) = .ok (.string (strOfNums ((bs.drop at_).take m))) (Sort.grow (redrawn w4 d) os):=fun d os =>
     run_convert_bytes_arg (P:=Tryz.prog) _ 72 5 Tryz.underlying72 Tryz.underlying5 b at_ m (c - at_) ((bs.drop at_).take m) (by rw [List.length_take,List.length_drop];omega) (fun j hj=>by
      have:=cell_regrown (HW4.out.by_ (at_ + j) (by omega)) d os
      rw [Nat.zero_add] at this
      rw [this,List.getD_eq_getElem?_getD,List.getElem?_take_of_lt hj,List.getElem?_drop,List.getElem?_eq_getElem (by omega)]
      rfl) 9 Tryz.underlying9
    go_wp2_with fail
    refine wp_region_quiet_below hm (by kernel_rfl) ?_
    repeat (quiet_step (fail))
    refine wpQuiet_nil ?_
    intro _ hw'
    obtain ⟨⟨dq2,osq2⟩,hw''⟩:=hw'
    subst hw''
    have hbq2:=below_regrown w4 dq2 osq2
    clear q0 q1 kc
    go_wp2_with fail
    go_ret
    exact ⟨rfl,HW4.out.below hbq2,HF4.out.trans (Fr.of_below (S:=fun _=>False) hbq2) (fun _ _ h=>h) (fun _ _ h=>h.elim)⟩
   ·have him:i < m:=by
     rcases Nat.lt_or_ge i m with h | h
     ·exact h
     ·have h3:k = at_ + m:=by have:=HK.out;omega
      subst h3
      have h2:=HGV.out
      rw [hg2 hin] at h2;cases h2
    go_wp2_with fail
    have HK2:=HK.out
    go_roundw
    case rel =>
     refine ⟨i + 1,by omega,HW2.out.set 1 _ ⟨at_ + (i + 1),line,col,out⟩ rfl ?_ ?_ ?_ (by omega) (by omega),HF2.out.setCell (p:=⟨r,1,none⟩) rfl _⟩
     ·rw [World.cell?_setCell_same _ _ _ c1];simp;omega
     ·rw [World.cell?_setCell_other _ _ _ _ (addr_ne (by omega))];exact HW2.out.c2
     ·rw [World.cell?_setCell_other _ _ _ _ (addr_ne (by omega))];exact HW2.out.c3
    case measure =>
     rw [cellNat_of (n:=k) HC1.out,cellNat_of (n:=k + 1) (k:=.i64) (by rw [World.cell?_setCell_same _ _ _ c1];simp)]
     omega
  ·omega
end
section
open Go.RowKit
theorem Tryz.info233:(Tryz.prog.info? 233).map (fun i=>(i.zero,i.size,i.bytes)) = some (some (.agg #[.int .i64 0,.string ⟨#[]⟩,.int .i64 0,.int .i64 0,.int .i64 0]),5,48):=by kernel_rfl
theorem tokc_one (t:Tok):∀ u ∈ tokc t,u.oneCell' = true:=by simp [tokc,Value.oneCell']
theorem add_is {base:Nat} {w:World} {r b c:Nat} {bs:List Int} {st:Rdr} {so:Value} (kind:Int) (text:List Int) (value col:Int) (h:RdW base w r b c bs st so) (hn:st.out.length ≤ 1000) :
  Calls Tryz.prog 170 #[.pointer (some ⟨r,0,none⟩),.int .i64 kind,.string (strOfNums text),.int .i64 value,.int .i64 col] w fun e w'=>e = .returned (.tuple #[]) ∧ ∃ so',RdW base w' r b c bs ⟨st.at_,st.line,st.col,st.out ++ [⟨kind,text,value,st.line,col⟩]⟩ so' ∧ Fr (fun q=>q = r ∨ base ≤ q) w w':=by
 obtain ⟨i0,ki,kz0,kz1,kz2⟩:=info_parts Tryz.info233
 obtain ⟨at_,line,cl,out⟩:=st
 simp only at *
 obtain ⟨a9,c9,hso⟩:=ownsRow_form h.own
 subst hso
 have hown:=h.own
 simp only at hown hn
 have c4:=h.c4
 have c2:=h.c2
 simp only at c2
 have z4:=h.fz 4
 have hrl:r < w.heap.size:=block_lt c4
 have hbl:=h.base_le
 have hnr:(Value.slice a9 out.length c9).ownBlock ≠ some r:=fun e=>by have:=ownsRow_block hown r e;have:=h.rb;omega
 have FIN:Hid (∀ (gg cap2:Nat) (w6:World),w6.ownsRow base 233 5 (.slice (some ⟨gg,0,none⟩) (out.length + 1) cap2) (out.length + 1) (out.flatMap tokc ++ [.int .i64 kind,.string (strOfNums text),.int .i64 value,.int .i64 line,.int .i64 col]) → Fr (fun q=>(Value.slice a9 out.length c9).ownBlock = some q) w w6 →
   RdW base (w6.setCell ⟨r,4,none⟩ (.slice (some ⟨gg,0,none⟩) (out.length + 1) cap2)) r b c bs ⟨at_,line,cl,out ++ [⟨kind,text,value,line,col⟩]⟩ (.slice (some ⟨gg,0,none⟩) (out.length + 1) cap2) ∧ Fr (fun q=>q = r ∨ base ≤ q) w (w6.setCell ⟨r,4,none⟩ (.slice (some ⟨gg,0,none⟩) (out.length + 1) cap2))):=fun gg cap2 w6 ho hf=>by
  have hT:∀ q,q < base → ¬ (Value.slice a9 out.length c9).ownBlock = some q:=fun q hq e=>by have:=ownsRow_block hown q e;omega
  have hr:=hT r h.rb
  have hb:=hT b h.bb
  have hg:=ownsRow_block ho gg rfl
  have hne:=h.ne
  have hrb:=h.rb
  refine ⟨⟨?_,?_,?_,?_,?_,?_,?_,?_,h.rb,h.bb,h.ne,?_,h.cap⟩,?_⟩
  ·rw [World.cell?_setCell_other _ _ _ _ (addr_ne (by omega))];exact (hf.cell (p:=⟨r,0,none⟩) hrl hr).trans h.c0
  ·rw [World.cell?_setCell_other _ _ _ _ (addr_ne (by omega))];exact (hf.cell (p:=⟨r,1,none⟩) hrl hr).trans h.c1
  ·rw [World.cell?_setCell_other _ _ _ _ (addr_ne (by omega))];exact (hf.cell (p:=⟨r,2,none⟩) hrl hr).trans h.c2
  ·rw [World.cell?_setCell_other _ _ _ _ (addr_ne (by omega))];exact (hf.cell (p:=⟨r,3,none⟩) hrl hr).trans h.c3
  ·exact World.cell?_setCell_same _ _ _ ((hf.cell (p:=⟨r,4,none⟩) hrl hr).trans h.c4)
  ·simp only [List.length_append,List.length_cons,List.length_nil,List.flatMap_append]
   have e:[(⟨kind,text,value,line,col⟩:Tok)].flatMap tokc = [.int .i64 kind,.string (strOfNums text),.int .i64 value,.int .i64 line,.int .i64 col]:=rfl
   rw [e]
   exact ownsRow_keep ho (fun k hk=>Below.heap_setCell _ _ _ _ (by simp only [Value.ownBlock,Option.some.injEq] at hk;subst hk;show gg ≠ r;omega))
  ·intro o;rw [World.frozen?_setCell];exact (hf.frozen (p:=⟨r,o,none⟩) hrl hr).trans (h.fz o)
  ·intro j hj
   rw [World.cell?_setCell_other _ _ _ _ (addr_ne' (Ne.symm hne))]
   exact (hf.cell (p:=⟨b,0 + j,none⟩) (Nat.lt_of_lt_of_le h.bb h.base_le) hb).trans (h.by_ j hj)
  ·simpa [World.setCell] using Nat.le_trans h.base_le hf.size
  ·exact (hf.mono (fun q _ e=>.inr (ownsRow_block hown q e))).setCell (p:=⟨r,4,none⟩) (.inl rfl) _
 generalize hT:strOfNums text = tx at FIN ⊢
 clear h hT
 go_enter Tryz.func170,Tryz.ntmps170
 go_wp2_with fail
 go_region_law (first | (refine step_append_lies _ (by rfl) _ _ _ (by rfl) base 233 i0 _ 5 48 Tryz.underlying228 ki kz0 kz1 kz2 rfl (by omega) _ _ _ (by rfl) ((hown.alloc _).drew) ⟨w.heap.size,0,none⟩ 1 1 [.int .i64 kind,.string tx,.int .i64 value,.int .i64 line,.int .i64 col] (by rfl) (by rfl) (World.news_of_block (cs:=#[.int .i64 kind,.string tx,.int .i64 value,.int .i64 line,.int .i64 col]) (t:=233) (fr:=(0,0)) (heap_alloc_new w _)) (by simp [Value.oneCell']) (by omega) (by unfold maxLen;omega) (by omega) (by simp;omega) (w.heap.size + 1) (by simp) ?_;intro gg cap2 w6 hown6 hgrow hat hlt;have G6:=grown_keep (w:=w) (p:=r) hgrow (by repeat (first | exact Fr.refl _ _ | refine Fr.alloc ?_ _ | refine Fr.drew ?_ | refine Fr.drewN ?_ _)) hrl hnr 4;have cv6:=G6.1.trans c4;have fv6:=G6.2.trans z4;clear G6))
 all_goals
  have hF6:Fr (fun q=>(Value.slice a9 out.length c9).ownBlock = some q) w w6:=Fr.grown (by repeat (first | exact Fr.refl _ _ | refine Fr.alloc ?_ _ | refine Fr.drew ?_ | refine Fr.drewN ?_ _)) hgrow (fun g e _=>e)
  obtain ⟨f1,f2⟩:=FIN.out gg cap2 w6 hown6 hF6
  clear hgrow hown6 hF6 cv6 fv6 hown hat
  go_wp2_with fail
  go_end0
  exact ⟨rfl,_,f1,f2⟩
end
end Go.Proofs.YtnoahekcemfmcaaGreatDoor
