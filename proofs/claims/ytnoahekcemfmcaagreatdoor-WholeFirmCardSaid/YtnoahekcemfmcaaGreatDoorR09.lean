/- A part of the walk: Sa Sb. -/
import Derived.Test.YtnoahekcemfmcaaGreatDoorR08
import Derived.Laws.EntriesVeiled
namespace Go.Proofs.YtnoahekcemfmcaaGreatDoor
set_option linter.unusedVariables false
set_option linter.unusedSimpArgs false
set_option maxHeartbeats 80000000
set_option maxRecDepth 100000
section
open Go.RowKit
theorem same_nm (x:Tk) (nm:ByteArray) (bt:Nat) (w:World) (hc:w.cell? ⟨bt,0,none⟩ = some (.string nm)) (hne:(x.nm.toList == nm.toList) = false) :
  Calls Tryz.prog 177 #[tkv x,.pointer (some ⟨bt,0,none⟩)] w fun e w'=>e = .returned (.bool false) ∧ Below w.heap.size w w':=by
 unfold tkv
 have hlt:bt < w.heap.size:=block_lt hc
 have c0:=(tbox w x).c0
 go_enter Tryz.func177,Tryz.ntmps177
 go_wp2_with fail
 go_ret
 exact ⟨rfl,(tbox w x).bel⟩
theorem same_pr (x:Tk) (p:Int) (bt:Nat) (w:World) (hc:w.cell? ⟨bt,10,none⟩ = some (.int .i64 p)) (hne:(x.Prio == p) = false) :
  Calls Tryz.prog 178 #[tkv x,.pointer (some ⟨bt,0,none⟩)] w fun e w'=>e = .returned (.bool false) ∧ Below w.heap.size w w':=by
 unfold tkv
 have hlt:bt < w.heap.size:=block_lt hc
 have c0:=(tbox w x).c10
 go_enter Tryz.func178,Tryz.ntmps178
 go_wp2_with fail
 go_ret
 exact ⟨rfl,(tbox w x).bel⟩
theorem idxT_none (B:Nat) (a:Option Addr) (n c:Nat) (tk:Nat → Tk) (g:Nat) (lb:Array Value) (w:World) (eg:∀ args w,(callFunc g args).run Tryz.prog w = .ok (.enter g args) w) (hx:TksIn B w a n tk) (hB:B ≤ w.heap.size) (hn:n ≤ 16)
  (hp:∀ W,Below w.heap.size w W → ∀ j,j < n → Calls Tryz.prog g (#[tkv (tk j)] ++ lb) W fun e w'=>e = .returned (.bool false) ∧ Below W.heap.size W w') :
  Calls Tryz.prog 208 #[.slice a n c,.func (.func g) #[] lb] w fun e w'=>e = .returned (.int .i64 (-1)) ∧ Below w.heap.size w w':=by
 have HP:=Lib.hid hp;clear hp
 go_enter Tryz.func208,Tryz.ntmps208
 go_wp2_with fail
 go_loopw [8] (fun i wr=>∃ k:Nat,k ≤ n ∧ i = .int .i64 k ∧ Below w.heap.size w wr) (fun i _=>n - (intOf i).toNat)
 case atStart=>exact ⟨0,Nat.zero_le _,rfl,Below.refl _ _⟩
 case round =>
  obtain ⟨k,hk,rfl,hb⟩:=hrel
  by_cases hlt:k < n
  ·obtain ⟨b,off,rfl,hbB,hcc⟩:=(hx.keep (hb.mono hB)) (by omega)
   have hq:=hcc k (by omega)
   have P:=Lib.hid (HP.out wr hb k hlt)
   have hkI:(k:Int) < (n:Int):=by omega
   have hk0:(0:Int) ≤ (k:Int):=by omega
   have hdl:decide ((k:Int) < (n:Int)) = true:=decide_eq_true hkI
   have Hx:=Lib.hid hx
   clear hx hcc
   go_wp2_with (refine wpList_load_mid rfl 41 _ rfl b (off + k * 11) rfl (tkc (tk k)) _ hq Tryz.underlying41 rfl Tryz.size41 ?_)
   refine P.out.mono ?_
   rintro e w2 ⟨rfl,hb2⟩
   have HB2:=Lib.hid (hb.trans (hb2.mono hb.size))
   clear hb2 P hb hq
   go_wp2_with fail
   go_roundw
   case rel=>exact ⟨k + 1,by omega,by simp,HB2.out⟩
   case measure=>simp [intOf];omega
  ·have hkn:k = n:=by omega
   subst hkn
   have hdl:decide ((k:Int) < (k:Int)) = false:=decide_eq_false (by omega)
   go_wp2_with fail
   go_ret
   exact ⟨rfl,hb⟩
theorem contT_none (B:Nat) (a:Option Addr) (n c:Nat) (tk:Nat → Tk) (g:Nat) (lb:Array Value) (w:World) (eg:∀ args w,(callFunc g args).run Tryz.prog w = .ok (.enter g args) w) (hx:TksIn B w a n tk) (hB:B ≤ w.heap.size) (hn:n ≤ 16)
  (hp:∀ W,Below w.heap.size w W → ∀ j,j < n → Calls Tryz.prog g (#[tkv (tk j)] ++ lb) W fun e w'=>e = .returned (.bool false) ∧ Below W.heap.size W w') :
  Calls Tryz.prog 176 #[.slice a n c,.func (.func g) #[] lb] w fun e w'=>e = .returned (.bool false) ∧ Below w.heap.size w w':=by
 have H:=Lib.hid (idxT_none B a n c tk g lb w eg hx hB hn hp)
 clear hx hp eg
 go_enter Tryz.func176,Tryz.ntmps176
 go_wp2_with (go_at_call 208;refine H.out.mono ?_;rintro e w2 ⟨rfl,hb2⟩;clear H)
 go_ret
 exact ⟨rfl,hb2⟩
theorem cell_bel {w w':World} {b o:Nat} {v:Value} (hb:Below w.heap.size w w') (h:w.cell? ⟨b,o,none⟩ = some v):w'.cell? ⟨b,o,none⟩ = some v :=
 ((Fr.of_below (S:=fun _=>False) hb).cell (p:=⟨b,o,none⟩) (block_lt h) (fun h=>h)).trans h
theorem named_ok (B:Nat) (a:Option Addr) (n c:Nat) (tk:Nat → Tk) (t:Tk) (w:World) (hx:TksIn B w a n tk) (hB:B ≤ w.heap.size) (hn:n ≤ 16) (hnm:NamedP t.nm) (hd:∀ j,j < n → ((tk j).nm.toList == t.nm.toList) = false) :
  Calls Tryz.prog 132 #[tkv t,.slice a n c] w fun e w'=>e = .returned (.bool true) ∧ Below w.heap.size w w':=by
 have hB1:=tbox w t
 have c0:=hB1.c0
 have clt:=hB1.lt
 have HK:Hid (∀ w2,Below (w.alloc (.cells #[.string t.nm,.int .i64 t.T,.int .i64 t.D,.int .i64 t.C,.int .i64 t.A,.int .i64 t.Seg,.int .i64 t.Cost,.int .i64 t.M,.int .i64 t.K,.int .i64 t.Mode,.int .i64 t.Prio] 41)).heap.size (w.alloc (.cells #[.string t.nm,.int .i64 t.T,.int .i64 t.D,.int .i64 t.C,.int .i64 t.A,.int .i64 t.Seg,.int .i64 t.Cost,.int .i64 t.M,.int .i64 t.K,.int .i64 t.Mode,.int .i64 t.Prio] 41)) w2 → Calls Tryz.prog 176 #[.slice a n c,.func (.func 177) #[] #[.pointer (some ⟨w.heap.size,0,none⟩)]] w2 fun e w'=>e = .returned (.bool false) ∧ Below w2.heap.size w2 w'):=fun w2 hb2 =>
  contT_none B a n c tk 177 _ w2 (enters_of Tryz.func177 (by kernel_rfl) rfl) (hx.keep ((hB1.bel.trans (hb2.mono hB1.bel.size)).mono hB)) (by have:=hB1.bel.size;have:=hb2.size;omega) hn fun W hW j hj=>same_nm (tk j) t.nm w.heap.size W (cell_bel hW (cell_bel hb2 c0)) (hd j hj)
 have HN:=Lib.hid (fun w=>inamed_ok t.nm hnm w)
 have HB1:=Lib.hid hB1.bel
 clear hx hd hnm hB1
 unfold tkv
 go_enter Tryz.func132,Tryz.ntmps132
 go_wp2_with (first | (go_at_call 175;refine (HN.out _).mono ?_;rintro e w2 ⟨rfl,hb2⟩;have HK2:=Lib.hid (HK.out w2 hb2);have HB2:=Lib.hid hb2;clear HN HK hb2) | (go_at_call 176;refine HK2.out.mono ?_;rintro e w3 ⟨rfl,hb3⟩;clear HK2))
 go_ret
 exact ⟨rfl,(HB1.out.trans (HB2.out.mono HB1.out.size)).trans (hb3.mono (Nat.le_trans HB1.out.size HB2.out.size))⟩
theorem ranked_ok (B:Nat) (a:Option Addr) (n c:Nat) (tk:Nat → Tk) (t:Tk) (w:World) (hx:TksIn B w a n tk) (hB:B ≤ w.heap.size) (hn:n ≤ 16) (ht:t.Ok) (hd:∀ j,j < n → ((tk j).Prio == t.Prio) = false) :
  Calls Tryz.prog 136 #[tkv t,.slice a n c] w fun e w'=>e = .returned (.bool true) ∧ Below w.heap.size w w':=by
 have hB1:=tbox w t
 have c10:=hB1.c10
 have clt:=hB1.lt
 have HK2:=Lib.hid (contT_none B a n c tk 178 #[.pointer (some ⟨w.heap.size,0,none⟩)] (w.alloc (.cells #[.string t.nm,.int .i64 t.T,.int .i64 t.D,.int .i64 t.C,.int .i64 t.A,.int .i64 t.Seg,.int .i64 t.Cost,.int .i64 t.M,.int .i64 t.K,.int .i64 t.Mode,.int .i64 t.Prio] 41)) (enters_of Tryz.func178 (by kernel_rfl) rfl) (hx.keep (hB1.bel.mono hB)) (by have:=hB1.bel.size;omega) hn fun W hW j hj=>same_pr (tk j) t.Prio w.heap.size W (cell_bel hW c10) (hd j hj))
 have HB1:=Lib.hid hB1.bel
 have p0:=ht.p0
 have p1:=ht.p1
 clear hx hd hB1 ht
 unfold tkv
 go_enter Tryz.func136,Tryz.ntmps136
 go_wp2_with (first | (go_at_call 89;refine (in_ok _ _ _ _ (by assumption) (by assumption)).mono ?_;rintro e w2 ⟨rfl,rfl⟩) | (go_at_call 176;refine HK2.out.mono ?_;rintro e w3 ⟨rfl,hb3⟩;clear HK2))
 go_ret
 exact ⟨rfl,HB1.out.trans (hb3.mono HB1.out.size)⟩
end
section
open Go.RowKit
theorem all_any (w:World):Calls Tryz.prog 90 #[] w fun e w'=>e = .returned (.slice (some ⟨w.heap.size,0,none⟩) 5 5) ∧ w' = w.alloc (.cells #[.int .i64 3,.func (.func 132) #[] #[],.int .i64 4,.func (.func 133) #[] #[],.int .i64 5,.func (.func 134) #[] #[],.int .i64 6,.func (.func 135) #[] #[],.int .i64 7,.func (.func 136) #[] #[]] 192):=by
 go_enter Tryz.func90,Tryz.ntmps90
 go_wp2_with fail
 go_ret
 exact ⟨rfl,rfl⟩
structure SetOk (bu:Int) (n:Nat) (tk:Nat → Tk):Prop where
 b1:1 ≤ bu
 b2:bu ≤ 1000
 n1:1 ≤ n
 n2:n ≤ 16
 nm:∀ i,i < n → NamedP (tk i).nm
 ok:∀ i,i < n → (tk i).Ok
 df:∀ i k,i < n → k < i → ((tk k).nm.toList == (tk i).nm.toList) = false
 pr:∀ i k,i < n → k < i → ((tk k).Prio == (tk i).Prio) = false
theorem TksIn.less {B:Nat} {w:World} {a:Option Addr} {n m:Nat} {tk:Nat → Tk} (h:TksIn B w a n tk) (hm:m ≤ n):TksIn B w a m tk:=fun h0=>by
 obtain ⟨b,off,e,hlt,hc⟩:=h (by omega)
 exact ⟨b,off,e,hlt,fun j hj=>hc j (by omega)⟩
theorem asked_ok {bu:Int} {n:Nat} {tk:Nat → Tk} (h:SetOk bu n tk) (B:Nat) (a:Option Addr) (c k:Nat) (hk:k < n) (w:World) (hx:TksIn B w a k tk) (hB:B ≤ w.heap.size) (f:Nat) (hf:f = 132 ∨ f = 133 ∨ f = 134 ∨ f = 135 ∨ f = 136) :
  Calls Tryz.prog f #[tkv (tk k),.slice a k c] w fun e w'=>e = .returned (.bool true) ∧ Below w.heap.size w w':=by
 have h2:=h.n2
 rcases hf with rfl | rfl | rfl | rfl | rfl
 ·exact named_ok B a k c tk (tk k) w hx hB (by omega) (h.nm k hk) fun j hj=>h.df k j hk hj
 ·exact timed_ok _ _ w (h.ok k hk)
 ·exact moded_ok _ _ w (h.ok k hk)
 ·exact firm_ok _ _ w (h.ok k hk)
 ·exact ranked_ok B a k c tk (tk k) w hx hB (by omega) (h.ok k hk) fun j hj=>h.pr k j hk hj
theorem why_ok (B:Nat) (bu:Int) (a:Option Addr) (n c:Nat) (tk:Nat → Tk) (w:World) (h:SetOk bu n tk) (hx:TksIn B w a n tk) (hB:B ≤ w.heap.size) (hnc:n ≤ c) :
  Calls Tryz.prog 52 #[.agg #[.int .i64 bu,.slice a n c]] w fun e w'=>e = .returned (.tuple #[.int .i64 0,.int .i64 (-1)]) ∧ Below w.heap.size w w':=by
 have hb0:=bel_alloc (Below.refl w.heap.size w) (.cells #[.int .i64 bu,.slice a n c] 24)
 have hbox0:=cell_newb w #[.int .i64 bu,.slice a n c] 24 _ 0 _ rfl rfl
 have hbox1:=cell_newb w #[.int .i64 bu,.slice a n c] 24 _ 1 _ rfl rfl
 have hsz:=one_lt w (.cells #[.int .i64 bu,.slice a n c] 24)
 have hx1:=Lib.hid (hx.keep (hb0.mono hB))
 have b1:=h.b1
 have b2:=h.b2
 have n1:(1:Int) ≤ (n:Int):=by have:=h.n1;omega
 have n2:(n:Int) ≤ 16:=by have:=h.n2;omega
 have HS:=Lib.hid h
 clear hx h
 go_enter Tryz.func52,Tryz.ntmps52
 go_wp2_with (go_at_call 89;refine (in_ok _ _ _ _ (by assumption) (by assumption)).mono ?_;rintro e w2 ⟨rfl,rfl⟩)
 generalize w.alloc (.cells #[.int .i64 bu,.slice a n c] 24) = w1 at hb0 hbox0 hbox1 hsz hx1 ⊢
 have HB0:=Lib.hid hb0
 clear hb0 b1 b2 n1
 go_loopw [22,4,5] (fun ix s4 s5 wx=>∃ k:Nat,k ≤ n ∧ ix = .int .i64 k ∧ Hid (Below w1.heap.size w1 wx)) (fun ix _ _ _=>n - (intOf ix).toNat)
 case atStart=>exact ⟨0,Nat.zero_le _,rfl,Below.refl _ _⟩
 case round =>
  obtain ⟨k,hk,rfl,HB⟩:=hrel
  by_cases hlt:k < n
  ·have hkI:(k:Int) < (n:Int):=by omega
   have hk0:(0:Int) ≤ (k:Int):=by omega
   have hdl:decide ((k:Int) < (n:Int)) = true:=decide_eq_true hkI
   have hxr:=hx1.out.keep (HB.out.mono (Nat.le_trans hB HB0.out.size))
   obtain ⟨b,off,rfl,hbB,hcc⟩:=hxr (by omega)
   have hq:=hcc k (by omega)
   have hT:Hid (Below wr.heap.size wr ((wr.alloc (.cells #[.string ⟨#[]⟩,.int .i64 0,.int .i64 0,.int .i64 0,.int .i64 0,.int .i64 0,.int .i64 0,.int .i64 0,.int .i64 0,.int .i64 0,.int .i64 0] 41)).setCells wr.heap.size 0 (tkc (tk k))) ∧ ((wr.alloc (.cells #[.string ⟨#[]⟩,.int .i64 0,.int .i64 0,.int .i64 0,.int .i64 0,.int .i64 0,.int .i64 0,.int .i64 0,.int .i64 0,.int .i64 0,.int .i64 0] 41)).setCells wr.heap.size 0 (tkc (tk k))).rangeAt wr.heap.size 0 (tkc (tk k))) :=
    ⟨below_setCells (Nat.le_refl _) _ _ _ (bel_alloc (Below.refl _ _) _),World.rangeAt_setCells_same _ _ _ (tkc (tk k)) (th_new wr #[.string ⟨#[]⟩,.int .i64 0,.int .i64 0,.int .i64 0,.int .i64 0,.int .i64 0,.int .i64 0,.int .i64 0,.int .i64 0,.int .i64 0,.int .i64 0] 41 wr.heap.size 11 rfl (by simp))⟩
   have hsz1:wr.heap.size < ((wr.alloc (.cells #[.string ⟨#[]⟩,.int .i64 0,.int .i64 0,.int .i64 0,.int .i64 0,.int .i64 0,.int .i64 0,.int .i64 0,.int .i64 0,.int .i64 0,.int .i64 0] 41)).setCells wr.heap.size 0 (tkc (tk k))).heap.size:=by rw [size_setCells];simp
   clear hxr hcc
   go_wp2_with (first | (refine wpList_load_mid rfl 41 _ rfl b (off + k * 11) rfl (tkc (tk k)) _ hq Tryz.underlying41 rfl Tryz.size41 ?_) | (refine wpList_store_mid rfl 41 _ _ rfl wr.heap.size 0 (tkc (tk k)).toArray rfl rfl (th_new wr #[.string ⟨#[]⟩,.int .i64 0,.int .i64 0,.int .i64 0,.int .i64 0,.int .i64 0,.int .i64 0,.int .i64 0,.int .i64 0,.int .i64 0,.int .i64 0] 41 wr.heap.size 11 rfl (by simp)) Tryz.size41 (by simp [Value.oneCell',tkc]) ?_;try simp only [List.toList_toArray];generalize World.setCells (wr.alloc (.cells #[.string ⟨#[]⟩,.int .i64 0,.int .i64 0,.int .i64 0,.int .i64 0,.int .i64 0,.int .i64 0,.int .i64 0,.int .i64 0,.int .i64 0,.int .i64 0] 41)) wr.heap.size 0 (tkc (tk k)) = w2 at hT hsz1 ⊢;clear hq) | (go_at_call 90;refine (all_any _).mono ?_;rintro e w3 ⟨rfl,hw3p⟩;have hw3:=Lib.hid hw3p;clear hw3p))
   obtain ⟨g,hg⟩:∃ g,g = w2.heap.size:=⟨_,rfl⟩
   have hb3:Below w2.heap.size w2 w3:=by rw [hw3.out];exact bel_alloc (Below.refl _ _) _
   have hTb:Hid (∀ j v,(#[.int .i64 3,.func (.func 132) #[] #[],.int .i64 4,.func (.func 133) #[] #[],.int .i64 5,.func (.func 134) #[] #[],.int .i64 6,.func (.func 135) #[] #[],.int .i64 7,.func (.func 136) #[] #[]]:Array Value).toList[j]? = some v → w3.cell? ⟨g,j,none⟩ = some v):=fun j v hv=>by rw [hw3.out,hg];exact cell_newb _ _ _ _ j v rfl hv
   have hT5:=rg_below hb3 hsz1 hT.out.2
   have hB3:=Lib.hid (HB.out.trans ((hT.out.1.trans (hb3.mono (Nat.le_of_lt hsz1))).mono HB.out.size))
   have hg3:g < w3.heap.size:=by rw [hw3.out,hg];simp
   have hr3:wr.heap.size < w3.heap.size:=Nat.lt_of_lt_of_le hsz1 hb3.size
   clear hw3
   rw [← hg]
   clear hg hb3 hT hsz1
   obtain ⟨b5,hb5⟩:∃ b5,b5 = wr.heap.size:=⟨_,rfl⟩
   rw [← hb5] at hT5 hr3 ⊢
   clear hb5
   have HT5:=Lib.hid hT5
   clear hT5
   have hkc:(k:Int) ≤ (c:Int):=by omega
   go_loopw [29,7] (fun ix s7 wy=>∃ j:Nat,j ≤ 5 ∧ ix = .int .i64 j ∧ Hid (Below w3.heap.size w3 wy)) (fun ix _ _=>5 - (intOf ix).toNat)
   case atStart=>exact ⟨0,by omega,rfl,Below.refl _ _⟩
   case round =>
    obtain ⟨j,hj,rfl,HBj⟩:=hrel
    by_cases hj5:j < 5
    ·have hjI:(j:Int) < 5:=by omega
     have hj0:(0:Int) ≤ (j:Int):=by omega
     have hdj:decide ((j:Int) < 5) = true:=decide_eq_true hjI
     obtain ⟨v,f,hc0,hc1,hfs⟩:∃ (v:Int) (f:Nat),wr.cell? ⟨g,j * 2,none⟩ = some (.int .i64 v) ∧ wr.cell? ⟨g,j * 2 + 1,none⟩ = some (.func (.func f) #[] #[]) ∧ (f = 132 ∨ f = 133 ∨ f = 134 ∨ f = 135 ∨ f = 136):=by
      have hj':j = 0 ∨ j = 1 ∨ j = 2 ∨ j = 3 ∨ j = 4:=by omega
      rcases hj' with rfl | rfl | rfl | rfl | rfl
      ·exact ⟨3,132,cell_bel HBj.out (hTb.out 0 _ rfl),cell_bel HBj.out (hTb.out 1 _ rfl),by simp⟩
      ·exact ⟨4,133,cell_bel HBj.out (hTb.out 2 _ rfl),cell_bel HBj.out (hTb.out 3 _ rfl),by simp⟩
      ·exact ⟨5,134,cell_bel HBj.out (hTb.out 4 _ rfl),cell_bel HBj.out (hTb.out 5 _ rfl),by simp⟩
      ·exact ⟨6,135,cell_bel HBj.out (hTb.out 6 _ rfl),cell_bel HBj.out (hTb.out 7 _ rfl),by simp⟩
      ·exact ⟨7,136,cell_bel HBj.out (hTb.out 8 _ rfl),cell_bel HBj.out (hTb.out 9 _ rfl),by simp⟩
     have eg:∀ args w,(callFunc f args).run Tryz.prog w = .ok (.enter f args) w:=by
      rcases hfs with rfl | rfl | rfl | rfl | rfl
      ·exact enters_of Tryz.func132 (by kernel_rfl) rfl
      ·exact enters_of Tryz.func133 (by kernel_rfl) rfl
      ·exact enters_of Tryz.func134 (by kernel_rfl) rfl
      ·exact enters_of Tryz.func135 (by kernel_rfl) rfl
      ·exact enters_of Tryz.func136 (by kernel_rfl) rfl
     go_wp2_with fail
     have hwk:=one_lt wr (.cells #[.int .i64 v,.func (.func f) #[] #[]] 192)
     have hbk:=bel_alloc (Below.refl wr.heap.size wr) (.cells #[.int .i64 v,.func (.func f) #[] #[]] 192)
     have HQ:Hid (∀ w',Below (wr.alloc (.cells #[.int .i64 v,.func (.func f) #[] #[]] 192)).heap.size (wr.alloc (.cells #[.int .i64 v,.func (.func f) #[] #[]] 192)) w' → w'.cell? ⟨wr.heap.size,1,none⟩ = some (.func (.func f) #[] #[]) ∧ w'.rangeAt b5 0 (tkc (tk k)) ∧ w'.cell? ⟨w.heap.size,1,none⟩ = some (.slice (some ⟨b,off,none⟩) n c) ∧ Below w3.heap.size w3 w' ∧ TksIn B w' (some ⟨b,off,none⟩) k tk ∧ B ≤ w'.heap.size ∧ Below (wr.alloc (.cells #[.int .i64 v,.func (.func f) #[] #[]] 192)).heap.size (wr.alloc (.cells #[.int .i64 v,.func (.func f) #[] #[]] 192)) w'):=fun w' hw'=>by
      have hbw:=HBj.out.trans ((hbk.trans (hw'.mono hbk.size)).mono HBj.out.size)
      have hb1w:=hB3.out.trans (hbw.mono hB3.out.size)
      exact ⟨cell_bel hw' (cell_newb _ _ _ _ 1 _ rfl rfl),rg_below hbw hr3 HT5.out,cell_bel hb1w hbox1,hbw,(hx1.out.keep (hb1w.mono (Nat.le_trans hB HB0.out.size))).less (by omega),by have:=hb1w.size;have:=HB0.out.size;omega,hw'⟩
     refine wp_region_held_drew (S:=(fun w'=>w'.cell? ⟨wr.heap.size,1,none⟩ = some (.func (.func f) #[] #[]) ∧ w'.rangeAt b5 0 (tkc (tk k)) ∧ w'.cell? ⟨w.heap.size,1,none⟩ = some (.slice (some ⟨b,off,none⟩) n c) ∧ Below w3.heap.size w3 w' ∧ TksIn B w' (some ⟨b,off,none⟩) k tk ∧ B ≤ w'.heap.size ∧ Below (wr.alloc (.cells #[.int .i64 v,.func (.func f) #[] #[]] 192)).heap.size (wr.alloc (.cells #[.int .i64 v,.func (.func f) #[] #[]] 192)) w')) (by kernel_rfl) ?hS0r (fun hHeld=>?_)
     case hS0r=>(try dsimp only);exact HQ.out _ ⟨rfl,rfl,rfl,Nat.le_refl _,fun _ _=>rfl⟩
     refine wtk (i:=0) ?_
     try simp only [Act.put,List.setIfInBounds_toArray,List.set]
     refine wtk (i:=1) ?_
     try simp only [Act.put,List.setIfInBounds_toArray,List.set]
     refine wpAnyH_take (i := 2) (oi := { dst := some 35, op := Op.load 41 (Operand.tmp 5), type := 41, pos := "task.go:65", after := #[], guard := none }) rfl (by kernel_rfl) (by kernel_rfl) (by kernel_rfl) (fun _ _ _ h => h) (yieldsIf_load_mid (by rfl) 41 _ rfl b5 0 rfl (tkc (tk k)) _ ?hSr3 Tryz.underlying41 rfl Tryz.size41) (by assumption) ?_
     case hSr3=>(intro wS hSw;(try dsimp only at hSw);exact hSw.2.1)
     try simp only [Act.put,List.setIfInBounds_toArray,List.set]
     refine wtk (i:=3) ?_
     try simp only [Act.put,List.setIfInBounds_toArray,List.set]
     refine wtk (i:=4) ?_
     try simp only [Act.put,List.setIfInBounds_toArray,List.set]
     refine wtk (i:=5) ?_
     try simp only [Act.put,List.setIfInBounds_toArray,List.set]
     refine wtk (i:=6) ?_
     try simp only [Act.put,List.setIfInBounds_toArray,List.set]
     refine wpAnyH_ready (rs:=[7]) (by kernel_rfl) (by simp) ?_
     refine arc (fun K hK=>?_) AllReadyH.nil
     go_simp
     refine (asked_ok HS.out B (some ⟨b,off,none⟩) c k hlt _ hHeld.2.2.2.2.1 hHeld.2.2.2.2.2.1 f hfs).mono ?_
     rintro e w5 ⟨rfl,hb5⟩
     refine hK.out _ _ ?hSr8 (fun hHeld2=>?hrr8)
     case hSr8=>(try dsimp only);exact HQ.out _ (hHeld.2.2.2.2.2.2.trans (hb5.mono hHeld.2.2.2.2.2.2.size))
     clear hK K hHeld
     have hHeld:=hHeld2
     clear hHeld2
     try simp only [Act.put,List.setIfInBounds_toArray,List.set]
     refine wtk (i:=8) ?_
     try simp only [Act.put,List.setIfInBounds_toArray,List.set]
     refine wpAnyH_done (by kernel_rfl) ?_ _
     have HB5:=Lib.hid hHeld.2.2.2.1
     clear hHeld HQ
     go_wp2_with fail
     go_roundw
     case rel=>exact ⟨j + 1,by omega,by simp,HB5⟩
     case measure=>simp [intOf];omega
    ·have hj5':j = 5:=by omega
     subst hj5'
     go_wp2_with fail
     go_roundw
     case rel=>exact ⟨k + 1,by omega,by simp,hB3.out.trans (HBj.out.mono hB3.out.size)⟩
     case measure=>simp [intOf];omega
  ·have hkn:k = n:=by omega
   subst hkn
   have hdl:decide ((k:Int) < (k:Int)) = false:=decide_eq_false (by omega)
   go_wp2_with fail
   go_ret2
   exact ⟨rfl,HB0.out.trans (HB.out.mono HB0.out.size)⟩
end
end Go.Proofs.YtnoahekcemfmcaaGreatDoor
