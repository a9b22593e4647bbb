/- A part of the walk: Tp Aw Ld Fa Fb. -/
import Derived.Test.YtnoahekcemfmcaaGreatDoorR41
import Derived.Test.YtnoahekcemfmcaaGreatDoorR02
import Derived.Test.YtnoahekcemfmcaaGreatDoorR37
import Derived.Test.YtnoahekcemfmcaaGreatDoorR28
import Derived.Test.YtnoahekcemfmcaaGreatDoorR08
namespace Go.Proofs.YtnoahekcemfmcaaGreatDoor
set_option linter.unusedVariables false
set_option linter.unusedSimpArgs false
set_option maxHeartbeats 80000000
set_option maxRecDepth 100000
section
open Go.RowKit
theorem tks_own {w:World} {base n c:Nat} {a:Option Addr} {tk:Nat → Tk} (h:w.ownsRow base 41 11 (.slice a n c) n (tkcs tk n)):TksIn w.heap.size w a n tk ∧ n ≤ c:=by
 refine ⟨fun h0=>?_,?_⟩
 ·obtain ⟨g,cap,hv,hg1,hg2,hg3,hg4,hg5⟩:=ownsRow_cells h h0
  simp at hv
  obtain ⟨rfl,rfl⟩:=hv
  refine ⟨g,0,rfl,hg2,fun j hj i v hi=>?_⟩
  have hi2:i < 11:=(List.getElem?_eq_some_iff.1 hi).1
  rw [show 0 + j * 11 + i = j * 11 + i by omega]
  exact hg4 _ _ ((tkcs_get tk n j i hj hi2).trans hi)
 ·rcases Nat.eq_zero_or_pos n with h0 | h0
  ·omega
  ·obtain ⟨g,cap,hv,hg1,hg2,hg3,hg4,hg5⟩:=ownsRow_cells h h0
   simp at hv
   omega
section
variable {base:Nat} {w w':World} {p tb tc N k:Nat} {T:Nat → Tok} {bu:Int} {tks:List Tk} {hd:List Tok} {sv hv:Value}
theorem wrong_is (h:PW base w p tb tc N T k bu tks hd sv hv) (hk:k < N) (n:Nat) (tk:Nat → Tk) (hS:SetOk bu n tk) (ht:tks.flatMap tkc = tkcs tk n) (hl:tks.length = n) :
  Calls Tryz.prog 131 #[.pointer (some ⟨p,0,none⟩)] w fun e w'=>e = .returned (.agg #[.int .i64 0,.int .i64 0,.int .i64 0]) ∧ Below w.heap.size w w':=by
 have hbA:Below w.heap.size w (w.alloc (.cells #[.int .i64 0,.int .i64 0,.int .i64 0] 130)):=bel_alloc (Below.refl _ w) _
 have hp:=h.below hbA
 obtain ⟨a,c,hsv⟩:=ownsRow_form h.own1
 have ho:=hp.own1
 rw [hsv,ht,hl] at ho
 obtain ⟨hx,hnc⟩:=tks_own ho
 have c4:=hp.c4
 have c5:=hp.c5
 rw [hsv,hl] at c5
 have HW:=Lib.hid (why_ok _ bu a n c tk _ hS hx (Nat.le_refl _) hnc)
 have HN:Hid (∀ w2,Below w.heap.size w w2 → Calls Tryz.prog 129 #[.pointer (some ⟨p,0,none⟩)] w2 _):=fun w2 hb=>now_is (h.below hb) hk
 have HB:=Lib.hid hbA
 have H0:Hid (∀ w2,Below (w.alloc (.cells #[.int .i64 0,.int .i64 0,.int .i64 0] 130)).heap.size (w.alloc (.cells #[.int .i64 0,.int .i64 0,.int .i64 0] 130)) w2 → w2.there w.heap.size 0 3):=fun w2 hb=>th_below hb (by simp) (th_new _ _ _ _ 3 (by simp) (by simp))
 clear h hp ho hx ht hsv hl hbA
 unfold tokc at HN
 go_enter Tryz.func131,Tryz.ntmps131
 go_wp2_with (first
  |(go_at_call 52;refine HW.out.mono ?_;rintro e w2 ⟨rfl,hb2⟩;have HB2:=Lib.hid (HB.out.trans (hb2.mono HB.out.size));have HB2':=Lib.hid hb2;clear hb2)
  |(go_at_call 129;refine (HN.out _ HB2.out).mono ?_;rintro e w3 ⟨rfl,hb3⟩
    have hth:(w3.alloc (.cells #[.int .i64 (T k).kind,.string (strOfNums (T k).text),.int .i64 (T k).value,.int .i64 (T k).line,.int .i64 (T k).col] 233)).there w.heap.size 0 3:=H0.out _ (HB2'.out.trans ((bel_alloc hb3 _).mono HB2'.out.size))
    have y0:=hth 0 (by omega)
    have y1:=hth 1 (by omega)
    have y2:=hth 2 (by omega)
    simp only [Nat.zero_add,Option.isSome_iff_exists] at y0 y1 y2
    obtain ⟨⟨v0,y0⟩,yz0⟩:=y0
    obtain ⟨⟨v1,y1⟩,yz1⟩:=y1
    obtain ⟨⟨v2,y2⟩,yz2⟩:=y2
    have HB3:=Lib.hid (HB2.out.trans ((bel_alloc hb3 (.cells #[.int .i64 (T k).kind,.string (strOfNums (T k).text),.int .i64 (T k).value,.int .i64 (T k).line,.int .i64 (T k).col] 233)).mono HB2.out.size))
    clear hb3 hth))
 obtain ⟨g1,g2⟩:=setz3 _ w.heap.size y0 y1 y2
 exact bodyPost_ret (res_cell rfl _ _ w.heap.size _ _ rfl g1 Tryz.underlying130 rfl Tryz.size130) rfl ⟨rfl,HB3.out.trans (g2.below (fun q _ e=>by omega) HB3.out.size)⟩
def tksTo (T:Nat → Tok) (ms:Nat → Nat) (i:Nat):List Tk:=(List.range i).map fun j=>tkOf T (3 + 13 * j) (ms j)
def hdsTo (T:Nat → Tok) (i:Nat):List Tok:=(List.range i).map fun j=>T (3 + 13 * j)
theorem tksTo_succ (T:Nat → Tok) (ms:Nat → Nat) (i:Nat):tksTo T ms (i + 1) = tksTo T ms i ++ [tkOf T (3 + 13 * i) (ms i)]:=by unfold tksTo;rw [List.range_succ,List.map_append];rfl
theorem hdsTo_succ (T:Nat → Tok) (i:Nat):hdsTo T (i + 1) = hdsTo T i ++ [T (3 + 13 * i)]:=by unfold hdsTo;rw [List.range_succ,List.map_append];rfl
theorem tksTo_flat (T:Nat → Tok) (ms:Nat → Nat) (n:Nat):(tksTo T ms n).flatMap tkc = tkcs (fun j=>tkOf T (3 + 13 * j) (ms j)) n:=by
 unfold tksTo tkcs;rw [List.flatMap_map]
theorem res_two_cells {P:Program} {fn:Func} {p q:Tmp} {t1 t2:TypeId} (h:fn.results = #[.cell p t1,.cell q t2]) (tmps:Array Value) (w:World) (b1 b2:Nat) (cs1 cs2:List Value) (d1 d2:TypeDesc) (hp:tmps.getD p undef = .pointer (some ⟨b1,0,none⟩)) (hq:tmps.getD q undef = .pointer (some ⟨b2,0,none⟩))
  (hc1:w.rangeAt b1 0 cs1) (hc2:w.rangeAt b2 0 cs2) (hu1:P.underlying t1 = some d1) (hd1:d1.isRow = true) (hi1:(P.info? t1).map (·.size) = some cs1.length) (hu2:P.underlying t2 = some d2) (hd2:d2.isRow = true) (hi2:(P.info? t2).map (·.size) = some cs2.length) :
  (results fn tmps).run P w = .ok (.tuple #[.agg cs1.toArray,.agg cs2.toArray]) w:=by
 have hp':tmps[p]?.getD undef = .pointer (some ⟨b1,0,none⟩):=by rw [← hp];simp
 have hq':tmps[q]?.getD undef = .pointer (some ⟨b2,0,none⟩):=by rw [← hq];simp
 unfold results
 rw [h]
 simp [Sem.run_bind,hp',hq',asAddr,run_loadVar_mid w b1 0 t1 cs1 d1 hc1 hu1 hd1 hi1,run_loadVar_mid w b2 0 t2 cs2 d2 hc2 hu2 hd2 hi2]
end
theorem set2r (w:World) (b:Nat) {u v u0 u1:Value} (h0:w.cell? ⟨b,0,none⟩ = some u0) (h1:w.cell? ⟨b,1,none⟩ = some u1) :
  ((w.setCell ⟨b,0,none⟩ u).setCell ⟨b,1,none⟩ v).rangeAt b 0 [u,v] ∧ Fr (· = b) w ((w.setCell ⟨b,0,none⟩ u).setCell ⟨b,1,none⟩ v):=by
 refine ⟨?_,((Fr.refl (· = b) w).setCell (p:=⟨b,0,none⟩) rfl _).setCell (p:=⟨b,1,none⟩) rfl _⟩
 have n01:(⟨b,0,none⟩:Addr) ≠ ⟨b,1,none⟩:=addr_ne (by omega)
 have c0:(w.setCell ⟨b,0,none⟩ u).cell? ⟨b,0,none⟩ = some u:=World.cell?_setCell_same _ _ _ h0
 have c1:(w.setCell ⟨b,0,none⟩ u).cell? ⟨b,1,none⟩ = some u1:=by rw [World.cell?_setCell_other _ _ _ _ n01];exact h1
 intro j x hx
 rw [Nat.zero_add]
 match j,hx with
 | 0,hx=>cases hx;rw [World.cell?_setCell_other _ _ _ _ (Ne.symm n01)];exact c0
 | 1,hx=>cases hx;exact World.cell?_setCell_same _ _ _ c1
 | j + 2,hx=>simp at hx
def lenAt (w:World) (a:Addr):Nat:=match w.cell? a with | some (.slice _ l _)=>l | _=>0
theorem lenAt_of {w:World} {a:Addr} {x:Option Addr} {l c:Nat} (h:w.cell? a = some (.slice x l c)):lenAt w a = l:=by unfold lenAt;rw [h]
structure IsSet (T:Nat → Tok) (n:Nat) (ms:Nat → Nat):Prop where
 f0:(T 0).kind = 1
 f1:(T 0).text = [98,117,114,115,116]
 f2:(T 1).kind = 2
 f3:(T 2).kind = 3
 ts:∀ i,i < n → IsTask T (3 + 13 * i) (ms i)
 en:(T (3 + 13 * n)).kind = 4
theorem pset_is {w:World} {b c f n:Nat} {bs:List Int} {toks:List Tok} {T:Nat → Tok} {ms:Nat → Nat} (hb:BytesIn w b 0 bs) (hbl:b < w.heap.size) (hcap:bs.length ≤ c) (hbs:bs.length ≤ 900) (hl:lexAll bs f ⟨0,1,1,[]⟩ = some toks)
  (hT:∀ i,i < toks.length → toks[i]? = some (T i)) (hN:toks.length = 3 + 13 * n + 1) (hI:IsSet T n ms) (h0:0 < n) (hS:SetOk (T 1).value n (fun j=>tkOf T (3 + 13 * j) (ms j))) :
  Calls Tryz.prog 88 #[.slice (some ⟨b,0,none⟩) bs.length c] w fun e w'=>∃ tb tc,e = .returned (.tuple #[.agg #[.int .i64 (T 1).value,.slice (some ⟨tb,0,none⟩) n tc],.agg #[.int .i64 0,.int .i64 0,.int .i64 0]]) ∧ w.heap.size ≤ tb ∧ TksIn w'.heap.size w' (some ⟨tb,0,none⟩) n (fun j=>tkOf T (3 + 13 * j) (ms j)) ∧ n ≤ tc ∧ Below w.heap.size w w':=by
 let A:=(w.alloc (.cells #[.int .i64 0,.slice none 0 0] 24)).alloc (.cells #[.int .i64 0,.int .i64 0,.int .i64 0] 130)
 have hbA:Below w.heap.size w A:=bel_alloc (bel_alloc (Below.refl _ w) _) _
 have HTO:=Lib.hid (tokens_is (w:=A) (f:=f) (fun j hj=>cell_bel hbA (hb j hj)) (Nat.lt_of_lt_of_le hbl hbA.size) hcap hbs hl)
 have HA:=Lib.hid hbA
 have hn16:=hS.n2
 have HX:Hid (∀ w',Below A.heap.size A w' → w'.there w.heap.size 0 2 ∧ w'.there (w.heap.size + 1) 0 3):=fun w' hb =>
  ⟨th_below hb (by show w.heap.size < ((w.alloc _).alloc _).heap.size;simp;omega) (th_below (bel_alloc (Below.refl _ (w.alloc (.cells #[.int .i64 0,.slice none 0 0] 24))) _) (by simp) (th_new _ _ _ _ 2 (by simp) (by simp))),th_below hb (by show w.heap.size + 1 < ((w.alloc _).alloc _).heap.size;simp) (th_new _ _ _ _ 3 (by simp) (by simp))⟩
 have HAS:Hid (A.heap.size = w.heap.size + 2):=by show ((w.alloc _).alloc _).heap.size = _;simp
 have HBL:Hid (∀ base p tb tc N w' k bu tks hd sv hv,PW base w' p tb tc N T k bu tks hd sv hv → k < N → (T k).kind ≠ 3 → Calls Tryz.prog 127 #[.pointer (some ⟨p,0,none⟩)] w' _):=fun base p tb tc N w' k bu tks hd sv hv h h1 h2=>blank_is h h1 h2
 have HFI:Hid (∀ base p tb tc w' bu tks hd sv hv,PW base w' p tb tc toks.length T 0 bu tks hd sv hv → Calls Tryz.prog 128 #[.pointer (some ⟨p,0,none⟩)] w' _):=fun base p tb tc w' bu tks hd sv hv h=>first_is h (by omega) hI.f0 hI.f1 hI.f2 hI.f3
 have HON:Hid (∀ base p tb tc w' i bu tks hd sv hv,i < n → PW base w' p tb tc toks.length T (3 + 13 * i) bu tks hd sv hv → tks.length ≤ 100 → hd.length ≤ 100 → Calls Tryz.prog 130 #[.pointer (some ⟨p,0,none⟩)] w' _):=fun base p tb tc w' i bu tks hd sv hv hi h h1 h2=>one_is h (by omega) (ms i) (hI.ts i hi) h1 h2
 have HKD:Hid (∀ i,i ≤ n → (T (3 + 13 * i)).kind ≠ 3 ∧ (i < n → (T (3 + 13 * i)).kind = 1) ∧ (i = n → (T (3 + 13 * i)).kind = 4)):=fun i hi=>by
  rcases Nat.lt_or_ge i n with h | h
  ·exact ⟨by rw [(hI.ts i h).t0];decide,fun _=>(hI.ts i h).t0,fun e=>by omega⟩
  ·obtain rfl:i = n:=by omega
   exact ⟨by rw [hI.en];decide,fun e=>by omega,fun _=>hI.en⟩
 have HWR:Hid (∀ base p tb tc w' bu sv hv,bu = (T 1).value → PW base w' p tb tc toks.length T (3 + 13 * n) bu (tksTo T ms n) (hdsTo T n) sv hv → Calls Tryz.prog 131 #[.pointer (some ⟨p,0,none⟩)] w' _):=fun base p tb tc w' bu sv hv hbu h=>wrong_is h (by omega) n _ (by rw [hbu];exact hS) (tksTo_flat T ms n) (by unfold tksTo;simp)
 have HNW:Hid (∀ base p tb tc w' k bu tks hd sv hv,PW base w' p tb tc toks.length T k bu tks hd sv hv → k < toks.length → Calls Tryz.prog 129 #[.pointer (some ⟨p,0,none⟩)] w' _):=fun base p tb tc w' k bu tks hd sv hv h hk=>now_is h hk
 unfold tokc at HNW
 have hf0:=fld0
 have hk3:0 < n → (T 3).kind = 1:=fun h=>(hI.ts 0 h).t0
 have HNN:=Lib.hid hN
 clear hN
 clear hb hbl hl hbA
 go_enter Tryz.func88,Tryz.ntmps88
 go_wp2_with fail
 go_at_call 126
 refine HTO.out.mono ?_
 rintro e w1 ⟨v,rfl,hown,hlen,hb1⟩
 obtain ⟨g,cap,rfl,hg1,hg2,hg3,hg4,hg5⟩:=ownsRow_cells hown (by have:=HNN.out;omega)
 obtain ⟨W2,hW2⟩:∃ W2,W2 = (w1.alloc (.cells #[.int .i64 0,.int .i64 0,.int .i64 0] 130)).alloc (.cells #[.slice (some ⟨g,0,none⟩) toks.length cap,.int .i64 0,.int .i64 0,.int .i64 0,.int .i64 0,.slice none 0 0,.int .i64 0,.string ⟨#[]⟩,.int .i64 0,.int .i64 0,.int .i64 0,.slice none 0 0] 235):=⟨_,rfl⟩
 have hb2:Below w1.heap.size w1 W2:=by rw [hW2];exact bel_alloc (bel_alloc (Below.refl _ w1) _) _
 have J0:PW (w1.heap.size + 2) W2 (w1.heap.size + 1) g cap toks.length T 0 0 [] [] (.slice none 0 0) (.slice none 0 0):=by
  rw [hW2] at hb2 ⊢
  have h12:((w1.alloc (.cells #[.int .i64 0,.int .i64 0,.int .i64 0] 130)).alloc (.cells #[.slice (some ⟨g,0,none⟩) toks.length cap,.int .i64 0,.int .i64 0,.int .i64 0,.int .i64 0,.slice none 0 0,.int .i64 0,.string ⟨#[]⟩,.int .i64 0,.int .i64 0,.int .i64 0,.slice none 0 0] 235)).there (w1.heap.size + 1) 0 12:=th_new _ _ _ _ 12 (by simp) (by simp)
  refine ⟨cell_newb _ _ _ _ 0 _ (by simp) rfl,cell_newb _ _ _ _ 1 _ (by simp) rfl,cell_newb _ _ _ _ 2 _ (by simp) rfl,cell_newb _ _ _ _ 3 _ (by simp) rfl,cell_newb _ _ _ _ 4 _ (by simp) rfl,cell_newb _ _ _ _ 5 _ (by simp) rfl,fun j hj=>?_,cell_newb _ _ _ _ 11 _ (by simp) rfl,World.ownsRow_nil _ _ _ _,World.ownsRow_nil _ _ _ _,fun q e=>by simp [Value.ownBlock] at e,fun o=>by simp,fun i hi j u hu=>?_,by omega,by omega,by omega,by simp,hg3⟩
  ·have:=h12 (6 + j) (by omega)
   rwa [Nat.zero_add] at this
  ·have hj:j < 5:=(List.getElem?_eq_some_iff.1 hu).1
   refine cell_bel hb2 (hg4 _ _ ?_)
   have:=flatMap_at tokc 5 tokc_len toks i j hi hj
   rw [this]
   have h2:=hT i hi
   rw [List.getElem?_eq_getElem hi] at h2
   rw [Option.some.inj h2]
   exact hu
 have HB1:=Lib.hid hb1
 have HB2:=Lib.hid hb2
 have HJ0:=Lib.hid J0
 have hk0:=HBL.out _ _ _ _ _ _ _ _ _ _ _ _ J0 (by have:=HNN.out;omega) (by rw [hI.f0];decide)
 rw [hW2] at hk0
 have HK0:=Lib.hid hk0
 have HW2:=Lib.hid hW2
 clear hb1 hb2 J0 hk0 hW2 hown hg4
 go_wp2_with (first
  |(go_at_call 127;refine HK0.out.mono ?_;rintro e w3 ⟨rfl,hb3⟩;rw [← HW2.out] at hb3;have HJ3:=Lib.hid (HJ0.out.below hb3);have HB3:=Lib.hid hb3;clear hb3 HK0)
  |(go_at_call 128;refine (HFI.out _ _ _ _ _ _ _ _ _ _ HJ3.out).mono ?_;rintro e w4 ⟨rfl,j4,f4⟩;have HJ4:=Lib.hid j4;have HF4:=Lib.hid f4;clear j4 f4)
  |(go_at_call 127;refine (HBL.out _ _ _ _ _ _ _ _ _ _ _ _ HJ4.out (by have:=HNN.out;omega) (by rw [hk3 h0];decide)).mono ?_;rintro e w5 ⟨rfl,hb5⟩;have HJ5:=Lib.hid (HJ4.out.below hb5);have HB5:=Lib.hid hb5;clear hb5))
 have hw12:=HB1.out.size
 generalize hp':w1.heap.size + 1 = p at *
 have hpE:w1.heap.size + 1 = p:=hp'
 generalize hbs':w1.heap.size + 2 = base at *
 have F5:Hid (Fr (fun q=>q = p ∨ base ≤ q) W2 w5):=((Fr.of_below (S:=fun q=>q = p ∨ base ≤ q) HB3.out).trans (HF4.out.mono (fun _ _ e=>.inl e)) (U:=fun q=>q = p ∨ base ≤ q) (fun _ _ e=>e) (fun _ _ e=>e)).trans (Fr.of_below (S:=fun q=>q = p ∨ base ≤ q) HB5.out) (fun _ _ e=>e) (fun _ _ e=>e)
 clear HF4 HB3 HB5 HJ0 HJ3 HJ4 HW2
 go_loopw [] (fun wx=>Hid (∃ i sv hv,i ≤ n ∧ PW base wx p g cap toks.length T (3 + 13 * i) (T 1).value (tksTo T ms i) (hdsTo T i) sv hv ∧ Fr (fun q=>q = p ∨ base ≤ q) W2 wx)) (fun wx=>lenAt wx ⟨p,0,none⟩)
 case atStart=>exact ⟨0,_,_,Nat.zero_le _,HJ5.out,F5.out⟩
 case round =>
  obtain ⟨i,sv,hv,hin,hJ,hF⟩:=hrel.out
  have c1:=hJ.c1
  have HC0:=Lib.hid hJ.c0
  have hNN:=HNN.out
  have HN1:=Lib.hid (HNW.out _ _ _ _ _ _ _ _ _ _ _ hJ (by omega))
  by_cases hlt:i < n
  ·have hkd:=(HKD.out i hin).2.1 hlt
   rw [hkd] at HN1
   have HO:Hid (∀ w',Below wr.heap.size wr w' → Calls Tryz.prog 130 #[.pointer (some ⟨p,0,none⟩)] w' _):=fun w' hb=>HON.out _ _ _ _ _ i _ _ _ _ _ hlt (hJ.below hb) (by unfold tksTo;simp;omega) (by unfold hdsTo;simp;omega)
   have HF:=Lib.hid hF
   clear hJ hF hrel hkd hNN
   go_wp2_with (first
    |(go_at_call 129;refine HN1.out.mono ?_;rintro e w6 ⟨rfl,hb6⟩;have HB6:=Lib.hid hb6;clear hb6)
    |(go_at_call 130;refine (HO.out _ HB6.out).mono ?_;rintro e w7 ⟨rfl,⟨sv7,hv7,j7⟩,f7⟩;have HJ7:=Lib.hid j7;have HF7:=Lib.hid f7;clear j7 f7)
    |(go_at_call 127;refine (HBL.out _ _ _ _ _ _ _ _ _ _ _ _ HJ7.out (by have:=HNN.out;omega) (by have:=(HKD.out (i + 1) (by omega)).1;rwa [show 3 + 13 * i + 13 = 3 + 13 * (i + 1) by omega])).mono ?_;rintro e w8 ⟨rfl,hb8⟩;have HJ8:=Lib.hid (HJ7.out.below hb8);have HB8:=Lib.hid hb8;clear hb8))
   have hj8:=HJ8.out
   rw [show 3 + 13 * i + 13 = 3 + 13 * (i + 1) by omega,← tksTo_succ,← hdsTo_succ] at hj8
   go_roundw
   case rel=>exact ⟨i + 1,sv7,hv7,by omega,hj8,((HF.out.trans (Fr.of_below (S:=fun q=>q = p ∨ base ≤ q) HB6.out) (U:=fun q=>q = p ∨ base ≤ q) (fun _ _ e=>e) (fun _ _ e=>e)).trans HF7.out (U:=fun q=>q = p ∨ base ≤ q) (fun _ _ e=>e) (fun _ _ e=>e)).trans (Fr.of_below (S:=fun q=>q = p ∨ base ≤ q) HB8.out) (fun _ _ e=>e) (fun _ _ e=>e)⟩
   case measure =>
    rw [lenAt_of hj8.c0,lenAt_of HC0.out]
    have:=HNN.out
    omega
  ·have hin':i = n:=by omega
   subst hin'
   have hlT:(tksTo T ms i).length = i:=by unfold tksTo;simp
   obtain ⟨tbk,csv,hsv⟩:=own_some hJ.own1 (by omega)
   rw [hlT] at hsv
   subst hsv
   clear hlT
   have hkd:=(HKD.out i hin).2.2 rfl
   rw [hkd] at HN1
   have HF:=Lib.hid hF
   have HJ:=Lib.hid hJ
   clear hJ hF hrel hkd hNN
   go_wp2_with (first
    |(go_at_call 129;refine HN1.out.mono ?_;rintro e w6 ⟨rfl,hb6⟩
      have HJ6:=Lib.hid (HJ.out.below hb6)
      have HB6:=Lib.hid hb6
      have d1:=HJ6.out.c1
      clear hb6)
    |(go_at_call 131;refine (HWR.out _ _ _ _ _ _ _ _ rfl HJ6.out).mono ?_;rintro e w7 ⟨rfl,hb7⟩
      have HJ7:=Lib.hid (HJ6.out.below hb7)
      have HB7:=Lib.hid hb7
      have e1:=HJ7.out.c1
      have e2:=HJ7.out.c2
      have e3:=HJ7.out.c3
      have e4:=HJ7.out.c4
      have e5:=HJ7.out.c5
      have y1:=HJ7.out.fz 1
      have y2:=HJ7.out.fz 2
      have y3:=HJ7.out.fz 3
      have HW7:Hid (Below A.heap.size A w7):=by
       have g2:Below w1.heap.size w1 W2:=HB2.out
       have g3:Below w1.heap.size W2 wr:=HF.out.below (fun q _ e=>by omega) g2.size
       have g4:=g3.trans ((HB6.out.trans (HB7.out.mono HB6.out.size)).mono (Nat.le_trans g2.size g3.size))
       exact HB1.out.trans ((g2.trans g4).mono HB1.out.size)
      have W8:∀ u1 u2 u3 q,q ≠ p → ∀ j,(((w7.setCell ⟨p,1,none⟩ u1).setCell ⟨p,2,none⟩ u2).setCell ⟨p,3,none⟩ u3).cell? ⟨q,j,none⟩ = w7.cell? ⟨q,j,none⟩:=fun u1 u2 u3 q hq j=>by
       rw [World.cell?_setCell_other _ _ _ _ (addr_ne' (Ne.symm hq)),World.cell?_setCell_other _ _ _ _ (addr_ne' (Ne.symm hq)),World.cell?_setCell_other _ _ _ _ (addr_ne' (Ne.symm hq))]
      have hx:=HX.out w7 HW7.out
      have hsz:=HAS.out
      have a0:=hx.1 0 (by omega)
      have a1:=hx.1 1 (by omega)
      have b0:=hx.2 0 (by omega)
      have b1:=hx.2 1 (by omega)
      have b2:=hx.2 2 (by omega)
      simp only [Nat.zero_add,Option.isSome_iff_exists] at a0 a1 b0 b1 b2
      obtain ⟨⟨va0,a0⟩,za0⟩:=a0
      obtain ⟨⟨va1,a1⟩,za1⟩:=a1
      obtain ⟨⟨vb0,b0⟩,zb0⟩:=b0
      obtain ⟨⟨vb1,b1⟩,zb1⟩:=b1
      obtain ⟨⟨vb2,b2⟩,zb2⟩:=b2
      have X0:=(W8 (.int .i64 0) (.int .i64 0) (.int .i64 0) w.heap.size (by omega) 0).trans a0
      have X1:=(W8 (.int .i64 0) (.int .i64 0) (.int .i64 0) w.heap.size (by omega) 1).trans a1
      have Y0:=(W8 (.int .i64 0) (.int .i64 0) (.int .i64 0) (w.heap.size + 1) (by omega) 0).trans b0
      have Y1:=(W8 (.int .i64 0) (.int .i64 0) (.int .i64 0) (w.heap.size + 1) (by omega) 1).trans b1
      have Y2:=(W8 (.int .i64 0) (.int .i64 0) (.int .i64 0) (w.heap.size + 1) (by omega) 2).trans b2
      clear hb7 W8 hx hsz a0 a1 b0 b1 b2))
   have hw7:=HW7.out.size
   have hsA:=HAS.out
   generalize hW8:((w7.setCell ⟨p,1,none⟩ (.int .i64 0)).setCell ⟨p,2,none⟩ (.int .i64 0)).setCell ⟨p,3,none⟩ (.int .i64 0) = w8 at *
   have F8:Fr (fun q=>q = p) w7 w8:=by rw [← hW8];exact (((Fr.refl (· = p) w7).setCell (p:=⟨p,1,none⟩) rfl _).setCell (p:=⟨p,2,none⟩) rfl _).setCell (p:=⟨p,3,none⟩) rfl _
   clear hW8
   obtain ⟨g1,f9⟩:=set2r w8 w.heap.size (u:=.int .i64 (T 1).value) (v:=.slice (some ⟨tbk,0,none⟩) i csv) X0 X1
   have Z0:=(f9.cell (p:=⟨w.heap.size + 1,0,none⟩) (block_lt Y0) (by show ¬ w.heap.size + 1 = w.heap.size;omega)).trans Y0
   have Z1:=(f9.cell (p:=⟨w.heap.size + 1,1,none⟩) (block_lt Y1) (by show ¬ w.heap.size + 1 = w.heap.size;omega)).trans Y1
   have Z2:=(f9.cell (p:=⟨w.heap.size + 1,2,none⟩) (block_lt Y2) (by show ¬ w.heap.size + 1 = w.heap.size;omega)).trans Y2
   generalize (w8.setCell ⟨w.heap.size,0,none⟩ (.int .i64 (T 1).value)).setCell ⟨w.heap.size,1,none⟩ (.slice (some ⟨tbk,0,none⟩) i csv) = w9 at *
   obtain ⟨g2,f10⟩:=setz3 w9 (w.heap.size + 1) Z0 Z1 Z2
   generalize ((w9.setCell ⟨w.heap.size + 1,0,none⟩ (.int .i64 0)).setCell ⟨w.heap.size + 1,1,none⟩ (.int .i64 0)).setCell ⟨w.heap.size + 1,2,none⟩ (.int .i64 0) = w10 at *
   have FF:Fr (fun q=>q = p ∨ q = w.heap.size ∨ q = w.heap.size + 1) w7 w10:=(F8.trans f9 (U:=fun q=>q = p ∨ q = w.heap.size ∨ q = w.heap.size + 1) (fun _ _ e=>.inl e) (fun _ _ e=>.inr (.inl e))).trans f10 (fun _ _ e=>e) (fun _ _ e=>.inr (.inr e))
   have g3:w10.rangeAt w.heap.size 0 [.int .i64 (T 1).value,.slice (some ⟨tbk,0,none⟩) i csv]:=rg_fr f10 (by have:=f9.size;have:=F8.size;omega) (by show ¬ w.heap.size = w.heap.size + 1;omega) g1
   have ho:=HJ7.out.own1
   have hlT:(tksTo T ms i).length = i:=by unfold tksTo;simp
   rw [tksTo_flat,hlT] at ho
   have hbt:=ownsRow_block ho tbk rfl
   obtain ⟨k1,k2⟩:=tks_own (own_fr2 ho FF (fun q e=>by have:=ownsRow_block ho q e;omega))
   refine bodyPost_ret (res_two_cells rfl _ _ w.heap.size (w.heap.size + 1) _ _ _ _ rfl rfl g3 g2 Tryz.underlying24 rfl Tryz.size24 Tryz.underlying130 rfl Tryz.size130) rfl ⟨tbk,csv,rfl,by omega,k1,k2,?_⟩
   have h7:Below w.heap.size w w7:=HA.out.trans (HW7.out.mono HA.out.size)
   exact h7.trans (FF.below (fun q _ e=>by omega) h7.size)
end
theorem ticks_nil {tk:Nat → Tk} {n:Nat} {s s':St} {l:List (List (Int × Int) × Bool)} {ev:List Ev} (h:Ticks tk n s l s' ev) (hl:l = []):s' = s ∧ ev = []:=by
 cases h with
 | nil=>exact ⟨rfl,rfl⟩
 | snoc h1 h2=>simp at hl
theorem ticks_snoc {tk:Nat → Tk} {n:Nat} {s s':St} {l l':List (List (Int × Int) × Bool)} {x:List (Int × Int) × Bool} {ev:List Ev} (h:Ticks tk n s l s' ev) (hl:l = l' ++ [x]) :
  ∃ s1 e1 e2,Ticks tk n s l' s1 e1 ∧ Tick1 tk n s1 x.1 x.2 s' e2 ∧ ev = e1 ++ e2:=by
 cases h with
 | nil=>simp at hl
 | snoc h1 h2 =>
  obtain ⟨rfl,e⟩:=List.append_inj' hl rfl
  simp at e
  subst e
  exact ⟨_,_,_,h1,h2,rfl⟩
structure Lone (s:St) (t:Nat) (j:Jb):Prop where
 now:s.now = t
 j0:s.job 0 = some j
 jk:∀ k,k ≠ 0 → s.job k = none
theorem lone_run {tk:Nat → Tk} {n:Nat} {s s':St} {t:Nat} {ev:List Ev} {j j':Jb} {c:Int} (hn:0 < n) (h:Lone s t j) (hj:jstep (tk 0) j false = (j',c)) (hr:Run1 tk n s false s' ev) :
  (c = 0 ∨ c = 1 → Lone s' t j' ∧ s'.last = 0) ∧ ev = evStart tk s 0 j ++ (runOut tk { s with job:=upd s.job 0 (some j'),last:=0 } 0 j' c).2:=by
 cases hr with
 | none q=>exact absurd (q 0 hn) (by rw [h.j0];simp)
 | some i k q =>
  have hi:i = 0:=by
   by_cases hi:i = 0
   ·exact hi
   ·have:=h.jk i hi
    rw [q.2.1] at this
    cases this
  subst hi
  have:=h.j0
  rw [q.2.1] at this
  cases this
  unfold runS
  rw [hj]
  refine ⟨fun hc=>?_,rfl⟩
  rcases hc with rfl | rfl
  ·exact ⟨⟨h.now,upd_self s.job 0 (some j'),fun k hk=>(upd_ne s.job (some j') hk).trans (h.jk k hk)⟩,rfl⟩
  ·exact ⟨⟨h.now,upd_self s.job 0 (some j'),fun k hk=>(upd_ne s.job (some j') hk).trans (h.jk k hk)⟩,rfl⟩
theorem lone_tick {tk:Nat → Tk} {n:Nat} {s s':St} {t:Nat} {ev:List Ev} {j j':Jb} {c:Int} (hn:0 < n) (h:Lone s t j) (hj:jstep (tk 0) j false = (j',c)) (hD:(t:Int) < (j.rel:Int) + (tk 0).D)
  (ht:Tick1 tk n s [] false s' ev):(c = 0 ∨ c = 1 → Lone s' (t + 1) j' ∧ s'.last = 0) ∧ ev = evStart tk s 0 j ++ (runOut tk { s with job:=upd s.job 0 (some j'),last:=0 } 0 j' c).2:=by
 have hl:∀ m,lateTo tk s m = (s,[]):=by
  intro m
  induction m with
  | zero=>rfl
  | succ m ih =>
   unfold lateTo
   rw [ih]
   by_cases hm:m = 0
   ·subst hm
    simp only [h.j0]
    rw [if_neg (by rw [h.now];omega)]
   ·simp only [h.jk m hm]
 cases ht with
 | mk h2 h3 =>
  rw [hl n] at h2
  cases h2 with
  | nil =>
   obtain ⟨g1,g2⟩:=lone_run hn h hj h3
   rw [hl n]
   refine ⟨fun hc=>?_,by rw [g2];rfl⟩
   obtain ⟨⟨k1,k2,k3⟩,k4⟩:=g1 hc
   exact ⟨⟨by simp [k1],k2,k3⟩,k4⟩
theorem awake_ev {tk:Nat → Tk} {nm:ByteArray} {s:St} {ev:List Ev} (h0:tk 0 = ⟨nm,20,18,3,0,2,1,1,1,1,0⟩)
  (h:Ticks tk 3 (St0 tk) [([(0,3)],false),([],false),([],false),([],false),([],false)] s ev):ev.map (·.what) = [1,3,5,8]:=by
 obtain ⟨s4,e4,d5,g4,t5,rfl⟩:=ticks_snoc (l':=[([(0,3)],false),([],false),([],false),([],false)]) h rfl
 obtain ⟨s3,e3,d4,g3,t4,rfl⟩:=ticks_snoc (l':=[([(0,3)],false),([],false),([],false)]) g4 rfl
 obtain ⟨s2,e2,d3,g2,t3,rfl⟩:=ticks_snoc (l':=[([(0,3)],false),([],false)]) g3 rfl
 obtain ⟨s1,e1,d2,g1,t2,rfl⟩:=ticks_snoc (l':=[([(0,3)],false)]) g2 rfl
 obtain ⟨s0,e0,d1,g0,t1,rfl⟩:=ticks_snoc (l':=[]) g1 rfl
 obtain ⟨rfl,rfl⟩:=ticks_nil g0 rfl
 have hl:lateTo tk (St0 tk) 3 = (St0 tk,[]):=rfl
 have hc:cut (tk 0) 3 = 3:=by rw [h0];rfl
 have hp0:plen (tk 0) 3 0 = 3:=by rw [h0];rfl
 have hC:(tk 0).C = 3:=by rw [h0]
 have hD:(tk 0).D = 18:=by rw [h0]
 obtain ⟨m,q1,q2,q3⟩:∃ m:Bool,Lone s1 1 ⟨0,0,m,false,true,3,0,2,false,0⟩ ∧ s1.last = 0 ∧ d1.map (·.what) = [1,3]:=by
  cases t1 with
  | mk a2 a3 =>
   rw [hl] at a2
   rw [hl]
   generalize hrs:[((0:Int),(3:Int))] = rs at a2
   cases a2 with
   | nil=>cases hrs
   | cons b1 b2 =>
    obtain ⟨rfl,rfl⟩:=List.cons.inj hrs
    cases b2 with
    | nil =>
     generalize hr:((0:Int),(3:Int)) = r at b1
     cases b1 with
     | none i d g=>obtain ⟨rfl,rfl⟩:=Prod.mk.inj hr;omega
     | early i d g ho=>exact absurd ho (by simp [St0])
     | good i d m g ho hm =>
      obtain ⟨e1,rfl⟩:=Prod.mk.inj hr
      obtain rfl:i = 0:=by omega
      have hnj:newJ tk (St0 tk) 0 3 m = ⟨0,0,m,false,false,3,0,3,false,0⟩:=by
       unfold newJ
       rw [hc,hp0,hC]
       rfl
      have hL:Lone (relS tk (St0 tk) 0 3 m) 0 ⟨0,0,m,false,false,3,0,3,false,0⟩:=⟨rfl,(upd_self (St0 tk).job 0 (some (newJ tk (St0 tk) 0 3 m))).trans (by rw [hnj]),fun k hk=>upd_ne (St0 tk).job (some (newJ tk (St0 tk) 0 3 m)) hk⟩
      obtain ⟨k1,k2⟩:=lone_run (j':=⟨0,0,m,false,true,3,0,2,false,0⟩) (c:=0) (by omega) hL (by rw [h0];cases m <;> rfl) a3
      obtain ⟨⟨k3,k4,k5⟩,k6⟩:=k1 (.inl rfl)
      exact ⟨m,⟨by simp [k3],k4,k5⟩,k6,by rw [k2];rfl⟩
 obtain ⟨r1,r2⟩:=lone_tick (j':=⟨0,0,m,false,true,3,0,1,false,0⟩) (c:=0) (by omega) q1 (by rw [h0];cases m <;> rfl) (by rw [hD];simp) t2
 obtain ⟨r3,r4⟩:=r1 (.inl rfl)
 obtain ⟨u1,u2⟩:=lone_tick (j':=⟨0,0,m,false,true,3,1,2,false,0⟩) (c:=1) (by omega) r3 (by rw [h0];cases m <;> rfl) (by rw [hD];simp) t3
 obtain ⟨u3,u4⟩:=u1 (.inr rfl)
 obtain ⟨v1,v2⟩:=lone_tick (j':=⟨0,0,m,false,true,3,1,1,false,0⟩) (c:=0) (by omega) u3 (by rw [h0];cases m <;> rfl) (by rw [hD];simp) t4
 obtain ⟨v3,v4⟩:=v1 (.inl rfl)
 obtain ⟨w1,w2⟩:=lone_tick (j':=⟨0,0,m,false,true,3,1,0,false,0⟩) (c:=4) (by omega) v3 (by rw [h0];cases m <;> rfl) (by rw [hD];simp) t5
 rw [r2,u2,v2,w2]
 simp only [List.map_append,q3,List.nil_append]
 simp [evStart,q2,r4,u4,v4,runOut,tell]
section
open Go.RowKit
def tkS (i:Nat):Tk:=if i = 0 then ⟨⟨#[97]⟩,20,18,3,0,2,1,1,1,1,0⟩ else if i = 1 then ⟨⟨#[98]⟩,40,35,4,3,0,0,2,3,3,1⟩ else ⟨⟨#[99]⟩,80,70,6,2,0,0,1,2,2,2⟩
theorem leastS_stated:leastS tkS 3 1 = 5:=by decide +kernel
theorem three {P:Nat → Prop} (h0:P 0) (h1:P 1) (h2:P 2):∀ i,i < 3 → P i:=fun i hi=>by
 have:i = 0 ∨ i = 1 ∨ i = 2:=by omega
 rcases this with rfl | rfl | rfl <;> assumption
theorem stated_right:SetOk 1 3 tkS where
 b1:=by decide
 b2:=by decide
 n1:=by decide
 n2:=by decide
 nm:=three (by constructor <;> decide +kernel) (by constructor <;> decide +kernel) (by constructor <;> decide +kernel)
 ok:=three (by constructor <;> decide +kernel) (by constructor <;> decide +kernel) (by constructor <;> decide +kernel)
 df:=fun i k hi hk=>by
  have:(i = 1 ∧ k = 0) ∨ (i = 2 ∧ k = 0) ∨ (i = 2 ∧ k = 1):=by omega
  rcases this with ⟨rfl,rfl⟩ | ⟨rfl,rfl⟩ | ⟨rfl,rfl⟩ <;> decide +kernel
 pr:=fun i k hi hk=>by
  have:(i = 1 ∧ k = 0) ∨ (i = 2 ∧ k = 0) ∨ (i = 2 ∧ k = 1):=by omega
  rcases this with ⟨rfl,rfl⟩ | ⟨rfl,rfl⟩ | ⟨rfl,rfl⟩ <;> decide +kernel
def tokT (i:Nat):Tok:=toksL.getD i ⟨0,[],0,0,0⟩
def msS (i:Nat):Nat:=if i = 0 then 1 else if i = 1 then 3 else 2
theorem toks_len:toksL.length = 3 + 13 * 3 + 1:=by decide +kernel
theorem toks_at:∀ i,i < toksL.length → toksL[i]? = some (tokT i):=fun i hi=>by
 unfold tokT;rw [List.getD_eq_getElem?_getD,List.getElem?_eq_getElem hi];rfl
theorem stated_toks:IsSet tokT 3 msS where
 f0:=by decide +kernel
 f1:=by decide +kernel
 f2:=by decide +kernel
 f3:=by decide +kernel
 ts:=three
  ⟨by decide +kernel,by decide +kernel,by decide +kernel,by decide +kernel,by decide +kernel,by decide +kernel,by decide +kernel,by decide +kernel,by decide +kernel,by decide +kernel⟩
  ⟨by decide +kernel,by decide +kernel,by decide +kernel,by decide +kernel,by decide +kernel,by decide +kernel,by decide +kernel,by decide +kernel,by decide +kernel,by decide +kernel⟩
  ⟨by decide +kernel,by decide +kernel,by decide +kernel,by decide +kernel,by decide +kernel,by decide +kernel,by decide +kernel,by decide +kernel,by decide +kernel,by decide +kernel⟩
 en:=by decide +kernel
theorem tok_burst:(tokT 1).value = 1:=by decide +kernel
theorem stated_tk:∀ i,i < 3 → tkOf tokT (3 + 13 * i) (msS i) = tkS i:=three (by rfl) (by rfl) (by rfl)
theorem text_bd:∀ x ∈ textL,0 ≤ x ∧ x < 256:=by decide +kernel
def TSs (i:Nat):ByteArray:=if i = 0 then rtaskS ⟨#[97]⟩ (numS 20) (numS 18) (numS 3) (modeS 1) (numS 0) (numS 2) (numS 1) (numS 1) (numS 1) (numS 0) else if i = 1 then rtaskS ⟨#[98]⟩ (numS 40) (numS 35) (numS 4) (modeS 3) (numS 3) (numS 0) (numS 0) (numS 2) (numS 3) (numS 1) else rtaskS ⟨#[99]⟩ (numS 80) (numS 70) (numS 6) (modeS 2) (numS 2) (numS 0) (numS 0) (numS 1) (numS 2) (numS 2)
theorem stated_text:setTo (numS 1) TSs 3 = strOfNums textL:=by decide +kernel
end
section
open Go.RowKit
def AnyB (e:Ending):Prop:=∃ b,e = .returned (.bool b)
end
section
open Go.RowKit
def InsIn (B:Nat) (w:World) (a:Option Addr) (l:List (List (Int × Int) × Bool)):Prop :=
 0 < l.length → ∃ b off,a = some ⟨b,off,none⟩ ∧ b < B ∧ ∀ j (h:j < l.length),∃ aj cj,w.cell? ⟨b,off + j * 2,none⟩ = some (.slice aj l[j].1.length cj) ∧ w.cell? ⟨b,off + j * 2 + 1,none⟩ = some (.bool l[j].2) ∧ RelsIn B w aj l[j].1
theorem InsIn.keep {T:Nat → Prop} {B:Nat} {w w':World} {a:Option Addr} {l:List (List (Int × Int) × Bool)} (h:InsIn B w a l) (hB:B ≤ w.heap.size) (hf:Fr T w w') (hT:∀ b,b < B → ¬ T b):InsIn B w' a l:=fun h0=>by
 obtain ⟨b,off,e,hlt,hc⟩:=h h0
 refine ⟨b,off,e,hlt,fun j hj=>?_⟩
 obtain ⟨aj,cj,c1,c2,c3⟩:=hc j hj
 exact ⟨aj,cj,(hf.cell (p:=⟨b,off + j * 2,none⟩) (by show b < _;omega) (hT b hlt)).trans c1,(hf.cell (p:=⟨b,off + j * 2 + 1,none⟩) (by show b < _;omega) (hT b hlt)).trans c2,c3.keep hB hf hT⟩
def relsN (l:List (List (Int × Int) × Bool)):Nat:=(l.map (·.1.length)).sum
theorem relsN_take (l:List (List (Int × Int) × Bool)) (k:Nat) (h:k < l.length):relsN (l.take (k + 1)) = relsN (l.take k) + l[k].1.length:=by
 unfold relsN
 rw [take_more l k h,List.map_append,List.sum_append]
 simp
end
end Go.Proofs.YtnoahekcemfmcaaGreatDoor
