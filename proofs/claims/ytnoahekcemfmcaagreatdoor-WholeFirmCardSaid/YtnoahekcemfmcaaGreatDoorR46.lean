/- A part of the walk: Fc Fd Fe. -/
import Derived.Test.YtnoahekcemfmcaaGreatDoorR09
import Derived.Test.YtnoahekcemfmcaaGreatDoorR42
import Derived.Deep.CutRange
namespace Go.Proofs.YtnoahekcemfmcaaGreatDoor
set_option linter.unusedVariables false
set_option linter.unusedSimpArgs false
set_option maxHeartbeats 80000000
set_option maxRecDepth 100000
section
open Go.RowKit
def RetW (e:Ending) (P:Prop):Prop:=∃ x y:Int,e = .returned (.tuple #[.int .i64 x,.int .i64 y]) ∧ (x = 0 → P)
structure OneOk (tk:Nat → Tk) (i:Nat):Prop where
 nm:NamedP (tk i).nm
 ok:(tk i).Ok
 df:∀ k,k < i → ((tk k).nm.toList == (tk i).nm.toList) = false
 pr:∀ k,k < i → ((tk k).Prio == (tk i).Prio) = false
def ModeOk (t:Tk):Prop:=1 ≤ t.Mode ∧ t.Mode ≤ 3 ∧ (t.Mode = 1 → 1 ≤ t.Seg ∧ t.Seg ≤ t.C ∧ t.A = 0) ∧ (t.Mode ≠ 1 → 1 ≤ t.A ∧ t.A ≤ t.D ∧ t.Seg = 0)
theorem rwhy_any (B:Nat) (bu:Int) (a:Option Addr) (n c:Nat) (tk:Nat → Tk) (w:World) (hx:TksIn B w a n tk) (hB:B ≤ w.heap.size) (hn:n ≤ 9223372036854775807) :
  Calls Tryz.prog 32 #[.agg #[.int .i64 bu,.slice a n c]] w fun e w'=>RetW e (SetOk bu n tk) ∧ Below w.heap.size w w':=by
 have hb0:=bel_alloc (Below.refl w.heap.size w) (.cells #[.int .i64 bu,.slice a n c] 24)
 have hbox0:=cell_newb w #[.int .i64 bu,.slice a n c] 24 _ 0 _ rfl rfl
 have hbox1:=cell_newb w #[.int .i64 bu,.slice a n c] 24 _ 1 _ rfl rfl
 have hsz:=one_lt w (.cells #[.int .i64 bu,.slice a n c] 24)
 have hx1:=Lib.hid (hx.keep (hb0.mono hB))
 have HB0:=Lib.hid hb0
 clear hx hb0
 by_cases h1:bu < 1
 ·have d1:decide (bu < 1) = true:=decide_eq_true h1
  as_aux_lemma =>
  go_enter Tryz.func32,Tryz.ntmps32
  go_wp2_with fail
  go_ret2
  exact ⟨⟨1,_,rfl,fun h=>by simp at h⟩,HB0.out⟩
 by_cases h2:1000 < bu
 ·have d1:decide (bu < 1) = false:=decide_eq_false h1
  have d2:decide (1000 < bu) = true:=decide_eq_true h2
  as_aux_lemma =>
  go_enter Tryz.func32,Tryz.ntmps32
  go_wp2_with fail
  go_ret2
  exact ⟨⟨1,_,rfl,fun h=>by simp at h⟩,HB0.out⟩
 have d1:decide (bu < 1) = false:=decide_eq_false h1
 have d2:decide (1000 < bu) = false:=decide_eq_false h2
 by_cases h3:n < 1
 ·have d3:decide ((n:Int) < 1) = true:=decide_eq_true (by omega)
  as_aux_lemma =>
  go_enter Tryz.func32,Tryz.ntmps32
  go_wp2_with fail
  go_ret2
  exact ⟨⟨2,_,rfl,fun h=>by simp at h⟩,HB0.out⟩
 have d3:decide ((n:Int) < 1) = false:=decide_eq_false (by omega)
 by_cases h4:16 < n
 ·have d4:decide ((16:Int) < (n:Int)) = true:=decide_eq_true (by omega)
  as_aux_lemma =>
  go_enter Tryz.func32,Tryz.ntmps32
  go_wp2_with fail
  go_ret2
  exact ⟨⟨2,_,rfl,fun h=>by simp at h⟩,HB0.out⟩
 have d4:decide ((16:Int) < (n:Int)) = false:=decide_eq_false (by omega)
 have hnI:(n:Int) ≤ 16:=by omega
 have H1:=Lib.hid h1
 have H2:=Lib.hid h2
 have H3:=Lib.hid h3
 have H4:=Lib.hid h4
 clear h1 h2 h3 h4
 go_enter Tryz.func32,Tryz.ntmps32
 go_wp2_with fail
 generalize w.alloc (.cells #[.int .i64 bu,.slice a n c] 24) = w1 at hbox0 hbox1 hsz hx1 HB0 ⊢
 clear d1 d2 d3 d4
 go_loopw [4,5,6,7,8,9] (fun ix s5 s6 s7 s8 s9 wx=>∃ k:Nat,k ≤ n ∧ ix = .int .i64 k ∧ Hid (∀ i,i < k → OneOk tk i) ∧ Hid (Below w1.heap.size w1 wx)) (fun ix _ _ _ _ _ _=>n - (intOf ix).toNat)
 case atStart=>exact ⟨0,Nat.zero_le _,rfl,fun i hi=>by omega,Below.refl _ _⟩
 case round =>
  obtain ⟨k,hk,rfl,HK,HB⟩:=hrel
  have hbw1:=cell_bel HB.out hbox1
  have hbw1:=cell_bel HB.out hbox1
  have hbw1:=cell_bel HB.out hbox1
  have hbw1:=cell_bel HB.out hbox1
  have hbw1:=cell_bel HB.out hbox1
  have hbw1:=cell_bel HB.out hbox1
  by_cases hlt:k < n
  ·have hkI:(k:Int) < (n:Int):=by omega
   have hk0:(0:Int) ≤ (k:Int):=by omega
   have hdl:decide ((k:Int) < (n:Int)) = true:=decide_eq_true hkI
   have hxr:=Lib.hid (hx1.out.keep (HB.out.mono (Nat.le_trans hB HB0.out.size)))
   obtain ⟨b,off,rfl,hbB,hcc⟩:=hxr.out (by omega)
   have hq:=hcc k (by omega)
   have hth:=th_new wr #[.string ⟨#[]⟩,.int .i64 0,.int .i64 0,.int .i64 0,.int .i64 0,.int .i64 0,.int .i64 0,.int .i64 0,.int .i64 0,.int .i64 0,.int .i64 0] 41 wr.heap.size 11 rfl (by simp)
   have hrg:=Lib.hid (World.rangeAt_setCells_same _ _ _ (tkc (tk k)) hth)
   have hbt:=Lib.hid (below_setCells (Nat.le_refl _) (tkc (tk k)) 0 _ (bel_alloc (Below.refl wr.heap.size wr) (.cells #[.string ⟨#[]⟩,.int .i64 0,.int .i64 0,.int .i64 0,.int .i64 0,.int .i64 0,.int .i64 0,.int .i64 0,.int .i64 0,.int .i64 0,.int .i64 0] 41)))
   have hszt:wr.heap.size < ((wr.alloc (.cells #[.string ⟨#[]⟩,.int .i64 0,.int .i64 0,.int .i64 0,.int .i64 0,.int .i64 0,.int .i64 0,.int .i64 0,.int .i64 0,.int .i64 0,.int .i64 0] 41)).setCells wr.heap.size 0 (tkc (tk k))).heap.size:=by rw [size_setCells];simp
   have hT0:((wr.alloc (.cells #[.string ⟨#[]⟩,.int .i64 0,.int .i64 0,.int .i64 0,.int .i64 0,.int .i64 0,.int .i64 0,.int .i64 0,.int .i64 0,.int .i64 0,.int .i64 0] 41)).setCells wr.heap.size 0 (tkc (tk k))).cell? ⟨wr.heap.size,0,none⟩ = some (.string (tk k).nm):=hrg.out 0 _ rfl
   have HNM:=Lib.hid (rnamed_any (tk k).nm)
   clear hcc
   go_upto_region 10 with (first | (refine wpList_load_mid rfl 41 _ rfl b (off + k * 11) rfl (tkc (tk k)) _ hq Tryz.underlying41 rfl Tryz.size41 ?_) | (refine wpList_store_mid rfl 41 _ _ rfl wr.heap.size 0 (tkc (tk k)).toArray rfl rfl hth Tryz.size41 (by simp [Value.oneCell',tkc]) ?_;try simp only [List.toList_toArray];generalize ((wr.alloc (.cells #[.string ⟨#[]⟩,.int .i64 0,.int .i64 0,.int .i64 0,.int .i64 0,.int .i64 0,.int .i64 0,.int .i64 0,.int .i64 0,.int .i64 0,.int .i64 0] 41)).setCells wr.heap.size 0 (tkc (tk k))) = wt at hbt hszt hT0 hrg ⊢;clear hq hth) | (go_at_call 53;refine (HNM.out _).mono ?_;rintro e w5 ⟨⟨nb,rfl,hnb⟩,hb5⟩;have HNB:=Lib.hid hnb;have HB5:=Lib.hid hb5;have hT10:=cell_bel hb5 (hrg.out 10 _ rfl);clear HNM hb5 hnb hT0;simp only [Nat.zero_add] at hT10;have hs5:wr.heap.size < w5.heap.size:=Nat.lt_of_lt_of_le hszt HB5.out.size))
   obtain ⟨pr,hpr⟩:∃ pr,(tk k).Prio = pr:=⟨_,rfl⟩
   rw [hpr] at hT10
   go_cut [7] from 28 to 187 (fun s7 wx=>∃ pb,s7 = .bool pb ∧ Hid (pb = false → 0 ≤ pr ∧ pr ≤ 255) ∧ wx = w5)
   case first =>
    by_cases p0:pr < 0
    ·have d0:decide (pr < 0) = true:=decide_eq_true p0
     go_wp2_with fail
     go_meet
     case rel=>exact ⟨true,rfl,fun h=>by simp at h,rfl⟩
    ·have d0:decide (pr < 0) = false:=decide_eq_false p0
     by_cases p1:255 < pr
     ·have d1:decide (255 < pr) = true:=decide_eq_true p1
      go_wp2_with fail
      go_meet
      case rel=>exact ⟨true,rfl,fun h=>by simp at h,rfl⟩
     ·have d1:decide (255 < pr) = false:=decide_eq_false p1
      go_wp2_with fail
      go_meet
      case rel=>exact ⟨false,rfl,fun h=>by omega,rfl⟩
   case rest =>
    obtain ⟨pb,rfl,HPB,rfl⟩:=hcut
    go_wp2_with fail
    have hbwc:=Lib.hid ((hbt.out.trans (HB5.out.mono (Nat.le_of_lt hszt))))
    have hc1:=cell_bel hbwc.out hbw1
    have hT0w:wc.cell? ⟨wr.heap.size,0,none⟩ = some (.string (tk k).nm):=cell_bel HB5.out (hrg.out 0 _ rfl)
    have HRG:=Lib.hid (rg_below HB5.out hszt hrg.out)
    have hk16:(k:Int) ≤ 16:=by omega
    have HBW:=Lib.hid (HB.out.trans (hbwc.out.mono HB.out.size))
    clear hxr hbt hszt hrg hbw1 HB hbwc HB5
    obtain ⟨b5,hb5⟩:∃ b5,b5 = wr.heap.size:=⟨_,rfl⟩
    rw [← hb5] at hT0w hT10 HRG hs5 ⊢
    clear hb5
    obtain ⟨nk,hnk⟩:∃ nk,(tk k).nm = nk:=⟨_,rfl⟩
    rw [hnk] at hT0w HNB
    have HNK:=Lib.hid hnk
    have HPR:=Lib.hid hpr
    clear hnk hpr
    go_loopw [8,6,7] (fun ix s6 s7 wx=>∃ (j:Nat) (nb2 pb2:Bool),j ≤ k ∧ ix = .int .i64 j ∧ s6 = .bool nb2 ∧ s7 = .bool pb2 ∧ Hid (nb2 = false → NamedP nk ∧ ∀ i,i < j → ((tk i).nm.toList == nk.toList) = false) ∧ Hid (pb2 = false → (0 ≤ pr ∧ pr ≤ 255) ∧ ∀ i,i < j → ((tk i).Prio == pr) = false) ∧ Hid (Below wc.heap.size wc wx)) (fun ix _ _ _=>k - (intOf ix).toNat)
    case atStart=>exact ⟨0,!nb,pb,Nat.zero_le _,rfl,rfl,rfl,fun h=>⟨HNB.out (by simpa using h),fun i hi=>by omega⟩,fun h=>⟨HPB.out h,fun i hi=>by omega⟩,Below.refl _ _⟩
    case round =>
     obtain ⟨j,nb2,pb2,hj,rfl,rfl,rfl,HN2,HP2,HBJ⟩:=hrel
     by_cases hjk:j < k
     ·have hjI:(j:Int) < (k:Int):=by omega
      have hj0:(0:Int) ≤ (j:Int):=by omega
      have hdj:decide ((j:Int) < (k:Int)) = true:=decide_eq_true hjI
      have hjn:(j:Int) < (n:Int):=by omega
      have hxj:=hx1.out.keep ((HBW.out.trans (HBJ.out.mono HBW.out.size)).mono (Nat.le_trans hB HB0.out.size))
      obtain ⟨b2,off2,hbb,hbB2,hcc⟩:=hxj (by omega)
      cases hbb
      have hn0:wr.cell? ⟨b,off + j * 11,none⟩ = some (.string (tk j).nm):=hcc j (by omega) 0 _ rfl
      have hn10:wr.cell? ⟨b,off + j * 11 + 10,none⟩ = some (.int .i64 (tk j).Prio):=hcc j (by omega) 10 _ rfl
      have hj1:=cell_bel HBJ.out hc1
      have hjT0:=cell_bel HBJ.out hT0w
      have hjT10:=cell_bel HBJ.out hT10
      clear hcc hxj
      go_upto_region 14 with fail
      obtain ⟨nj,hnj⟩:∃ nj,(tk j).nm = nj:=⟨_,rfl⟩
      obtain ⟨pj,hpj⟩:∃ pj,(tk j).Prio = pj:=⟨_,rfl⟩
      rw [hnj] at hn0
      rw [hpj] at hn10
      have HNJ:=Lib.hid hnj
      have HPJ:=Lib.hid hpj
      have hbl:b < wr.heap.size:=block_lt hn0
      have hb5l:b5 < wr.heap.size:=block_lt hjT0
      have hwl:w.heap.size < wr.heap.size:=block_lt hj1
      clear hnj hpj
      go_cut [6] from 52 to 80 (fun s6 wx=>∃ nb3,s6 = .bool nb3 ∧ Hid (nb3 = false → nb2 = false ∧ (nj.toList == nk.toList) = false) ∧ Below wr.heap.size wr wx)
      case first =>
       cases nb2
       ·go_wp2_with fail
        go_quiet (fail)
        go_wp2_with fail
        go_meet
        case rel=>exact ⟨_,rfl,fun h=>⟨by simp,by simpa using h⟩,bel_drewN (Below.refl _ _) _⟩
       ·go_wp2_with fail
        go_quiet (fail)
        go_wp2_with fail
        go_meet
        case rel=>exact ⟨true,rfl,fun h=>by simp at h,bel_drewN (Below.refl _ _) _⟩
      case rest =>
       obtain ⟨nb3,rfl,HN3,hbc2⟩:=hcut
       have hk0c:=cell_bel hbc2 hn10
       have hk1c:=cell_bel hbc2 hj1
       have hk2c:=cell_bel hbc2 hjT10
       have HBC2:=Lib.hid hbc2
       clear hbc2 hn0 hn10 hj1 hjT0 hjT10
       go_upto_region 15 with fail
       have hblc:b < wc.heap.size:=block_lt hk0c
       have hwlc:w.heap.size < wc.heap.size:=block_lt hk1c
       have hb5c:b5 < wc.heap.size:=block_lt hk2c
       have HBCX:=Lib.hid (HBJ.out.trans (HBC2.out.mono HBJ.out.size))
       have HNF:Hid (nb3 = false → NamedP nk ∧ ∀ i,i < j + 1 → ((tk i).nm.toList == nk.toList) = false):=fun h=>by
        obtain ⟨e1,e2⟩:=HN3.out h
        obtain ⟨e3,e4⟩:=HN2.out e1
        refine ⟨e3,fun i hi=>?_⟩
        by_cases e:i = j
        ·subst e;rw [HNJ.out];exact e2
        ·exact e4 i (by omega)
       cases pb2
       ·have HPF:Hid ((pj == pr) = false → (0 ≤ pr ∧ pr ≤ 255) ∧ ∀ i,i < j + 1 → ((tk i).Prio == pr) = false):=fun h=>by
         obtain ⟨e3,e4⟩:=HP2.out rfl
         refine ⟨e3,fun i hi=>?_⟩
         by_cases e:i = j
         ·subst e;rw [HPJ.out];exact h
         ·exact e4 i (by omega)
        as_aux_lemma =>
        go_wp2_with fail
        go_quiet (fail)
        go_wp2_with fail
        go_roundw
        case rel=>exact ⟨j + 1,nb3,(pj == pr),by omega,by simp,by simp,by simp,HNF,HPF,HBCX.out.trans ((bel_drewN (Below.refl _ _) _).mono HBCX.out.size)⟩
        case measure=>simp [intOf];omega
       ·have HPF:Hid (true = false → (0 ≤ pr ∧ pr ≤ 255) ∧ ∀ i,i < j + 1 → ((tk i).Prio == pr) = false):=fun h=>by simp at h
        as_aux_lemma =>
        go_wp2_with fail
        go_quiet (fail)
        go_wp2_with fail
        go_roundw
        case rel=>exact ⟨j + 1,nb3,true,by omega,by simp,by simp,by simp,HNF,HPF,HBCX.out.trans ((bel_drewN (Below.refl _ _) _).mono HBCX.out.size)⟩
        case measure=>simp [intOf];omega
     ·have hjk':j = k:=by omega
      subst hjk'
      have hdj:decide ((j:Int) < (j:Int)) = false:=decide_eq_false (by omega)
      have HRGJ:=Lib.hid (rg_below HBJ.out hs5 HRG.out)
      have HBE:=Lib.hid (HBW.out.trans (HBJ.out.mono HBW.out.size))
      have hb5l:b5 < wr.heap.size:=block_lt (HRGJ.out 0 _ rfl)
      obtain ⟨t,ht⟩:∃ t,tk j = t:=⟨_,rfl⟩
      rw [ht] at HRGJ
      have HTJ:=Lib.hid ht
      clear ht
      have c1:wr.cell? ⟨b5,1,none⟩ = some (.int .i64 t.T):=by have:=HRGJ.out 1 _ rfl;simpa using this
      have c2:wr.cell? ⟨b5,2,none⟩ = some (.int .i64 t.D):=by have:=HRGJ.out 2 _ rfl;simpa using this
      have c3:wr.cell? ⟨b5,3,none⟩ = some (.int .i64 t.C):=by have:=HRGJ.out 3 _ rfl;simpa using this
      have c4:wr.cell? ⟨b5,4,none⟩ = some (.int .i64 t.A):=by have:=HRGJ.out 4 _ rfl;simpa using this
      have c5:wr.cell? ⟨b5,5,none⟩ = some (.int .i64 t.Seg):=by have:=HRGJ.out 5 _ rfl;simpa using this
      have c6:wr.cell? ⟨b5,6,none⟩ = some (.int .i64 t.Cost):=by have:=HRGJ.out 6 _ rfl;simpa using this
      have c7:wr.cell? ⟨b5,7,none⟩ = some (.int .i64 t.M):=by have:=HRGJ.out 7 _ rfl;simpa using this
      have c8:wr.cell? ⟨b5,8,none⟩ = some (.int .i64 t.K):=by have:=HRGJ.out 8 _ rfl;simpa using this
      have c9:wr.cell? ⟨b5,9,none⟩ = some (.int .i64 t.Mode):=by have:=HRGJ.out 9 _ rfl;simpa using this
      clear hT0w hT10 hc1 hs5
      go_upto_region 16 with fail
      go_cut [9] from 28 to 187 (fun s9 wx=>∃ mb,s9 = .bool mb ∧ Hid (mb = false → ModeOk t) ∧ wx = wr)
      case first =>
       by_cases q1:t.Mode < 1
       ·skip
        have dq1:decide (t.Mode < 1) = true:=decide_eq_true q1
        as_aux_lemma =>
        go_wp2_with fail
        go_meet
        case rel=>exact ⟨true,by first | rfl | (simp;omega) | simp,fun h=>by simp at h,rfl⟩
       ·skip
        have dq1:decide (t.Mode < 1) = false:=decide_eq_false q1
        by_cases q2:3 < t.Mode
        ·skip
         have dq2:decide (3 < t.Mode) = true:=decide_eq_true q2
         as_aux_lemma =>
         go_wp2_with fail
         go_meet
         case rel=>exact ⟨true,by first | rfl | (simp;omega) | simp,fun h=>by simp at h,rfl⟩
        ·skip
         have dq2:decide (3 < t.Mode) = false:=decide_eq_false q2
         by_cases q3:t.Mode = 1
         ·skip
          have dq3:(t.Mode == 1) = true:=by simp [q3]
          have eq3:decide (1 < t.Mode) = false:=decide_eq_false (by omega)
          by_cases q4:t.Seg < 1
          ·skip
           have dq4:decide (t.Seg < 1) = true:=decide_eq_true q4
           as_aux_lemma =>
           go_wp2_with fail
           go_meet
           case rel=>exact ⟨true,by first | rfl | (simp;omega) | simp,fun h=>by simp at h,rfl⟩
          ·skip
           have dq4:decide (t.Seg < 1) = false:=decide_eq_false q4
           by_cases q5:t.C < t.Seg
           ·skip
            have dq5:decide (t.C < t.Seg) = true:=decide_eq_true q5
            as_aux_lemma =>
            go_wp2_with fail
            go_meet
            case rel=>exact ⟨true,by first | rfl | (simp;omega) | simp,fun h=>by simp at h,rfl⟩
           ·skip
            have dq5:decide (t.C < t.Seg) = false:=decide_eq_false q5
            by_cases q6:¬ t.A = 0
            ·skip
             have dq6:(t.A == 0) = false:=beq_eq_false_iff_ne.2 (by omega)
             as_aux_lemma =>
             go_wp2_with fail
             go_meet
             case rel=>exact ⟨true,by first | rfl | (simp;omega) | simp,fun h=>by simp at h,rfl⟩
            ·skip
             have dq6:(t.A == 0) = true:=beq_iff_eq.2 (by omega)
             as_aux_lemma =>
             go_wp2_with fail
             go_meet
             case rel=>exact ⟨false,by first | rfl | (simp;omega) | simp,fun h=>by { unfold ModeOk;omega },rfl⟩
         ·skip
          have dq3:(t.Mode == 1) = false:=by simp [q3]
          have eq3:decide (1 < t.Mode) = true:=decide_eq_true (by omega)
          by_cases q7:t.A < 1
          ·skip
           have dq7:decide (t.A < 1) = true:=decide_eq_true q7
           as_aux_lemma =>
           go_wp2_with fail
           go_meet
           case rel=>exact ⟨true,by first | rfl | (simp;omega) | simp,fun h=>by simp at h,rfl⟩
          ·skip
           have dq7:decide (t.A < 1) = false:=decide_eq_false q7
           by_cases q8:t.D < t.A
           ·skip
            have dq8:decide (t.D < t.A) = true:=decide_eq_true q8
            as_aux_lemma =>
            go_wp2_with fail
            go_meet
            case rel=>exact ⟨true,by first | rfl | (simp;omega) | simp,fun h=>by simp at h,rfl⟩
           ·skip
            have dq8:decide (t.D < t.A) = false:=decide_eq_false q8
            by_cases q9:¬ t.Seg = 0
            ·skip
             have dq9:(t.Seg == 0) = false:=beq_eq_false_iff_ne.2 (by omega)
             as_aux_lemma =>
             go_wp2_with fail
             go_meet
             case rel=>exact ⟨true,by first | rfl | (simp;omega) | simp,fun h=>by simp at h,rfl⟩
            ·skip
             have dq9:(t.Seg == 0) = true:=beq_iff_eq.2 (by omega)
             as_aux_lemma =>
             go_wp2_with fail
             go_meet
             case rel=>exact ⟨false,by first | rfl | (simp;omega) | simp,fun h=>by { unfold ModeOk;omega },rfl⟩
      case rest =>
       obtain ⟨mb,rfl,HMB,rfl⟩:=hcut
       cases nb2 with
       | true =>
        as_aux_lemma =>
        go_wp2_with fail
        go_ret2
        exact ⟨⟨_,_,rfl,fun h=>by simp at h⟩,HB0.out.trans (HBE.out.mono HB0.out.size)⟩
       | false =>
        by_cases q10:t.C < 1
        ·skip
         have dq10:decide (t.C < 1) = true:=decide_eq_true q10
         as_aux_lemma =>
         go_wp2_with fail
         go_ret2
         exact ⟨⟨_,_,rfl,fun h=>by simp at h⟩,HB0.out.trans (HBE.out.mono HB0.out.size)⟩
        ·skip
         have dq10:decide (t.C < 1) = false:=decide_eq_false q10
         by_cases q11:t.D < t.C
         ·skip
          have dq11:decide (t.D < t.C) = true:=decide_eq_true q11
          as_aux_lemma =>
          go_wp2_with fail
          go_ret2
          exact ⟨⟨_,_,rfl,fun h=>by simp at h⟩,HB0.out.trans (HBE.out.mono HB0.out.size)⟩
         ·skip
          have dq11:decide (t.D < t.C) = false:=decide_eq_false q11
          by_cases q12:t.T < t.D
          ·skip
           have dq12:decide (t.T < t.D) = true:=decide_eq_true q12
           as_aux_lemma =>
           go_wp2_with fail
           go_ret2
           exact ⟨⟨_,_,rfl,fun h=>by simp at h⟩,HB0.out.trans (HBE.out.mono HB0.out.size)⟩
          ·skip
           have dq12:decide (t.T < t.D) = false:=decide_eq_false q12
           by_cases q13:1048576 < t.T
           ·skip
            have dq13:decide (1048576 < t.T) = true:=decide_eq_true q13
            as_aux_lemma =>
            go_wp2_with fail
            go_ret2
            exact ⟨⟨_,_,rfl,fun h=>by simp at h⟩,HB0.out.trans (HBE.out.mono HB0.out.size)⟩
           ·skip
            have dq13:decide (1048576 < t.T) = false:=decide_eq_false q13
            by_cases q14:t.Cost < 0
            ·skip
             have dq14:decide (t.Cost < 0) = true:=decide_eq_true q14
             as_aux_lemma =>
             go_wp2_with fail
             go_ret2
             exact ⟨⟨_,_,rfl,fun h=>by simp at h⟩,HB0.out.trans (HBE.out.mono HB0.out.size)⟩
            ·skip
             have dq14:decide (t.Cost < 0) = false:=decide_eq_false q14
             by_cases q15:1000 < t.Cost
             ·skip
              have dq15:decide (1000 < t.Cost) = true:=decide_eq_true q15
              as_aux_lemma =>
              go_wp2_with fail
              go_ret2
              exact ⟨⟨_,_,rfl,fun h=>by simp at h⟩,HB0.out.trans (HBE.out.mono HB0.out.size)⟩
             ·skip
              have dq15:decide (1000 < t.Cost) = false:=decide_eq_false q15
              cases mb with
              | true =>
               as_aux_lemma =>
               go_wp2_with fail
               go_ret2
               exact ⟨⟨_,_,rfl,fun h=>by simp at h⟩,HB0.out.trans (HBE.out.mono HB0.out.size)⟩
              | false =>
               by_cases q16:t.M < 1
               ·skip
                have dq16:decide (t.M < 1) = true:=decide_eq_true q16
                as_aux_lemma =>
                go_wp2_with fail
                go_ret2
                exact ⟨⟨_,_,rfl,fun h=>by simp at h⟩,HB0.out.trans (HBE.out.mono HB0.out.size)⟩
               ·skip
                have dq16:decide (t.M < 1) = false:=decide_eq_false q16
                by_cases q17:t.K < t.M
                ·skip
                 have dq17:decide (t.K < t.M) = true:=decide_eq_true q17
                 as_aux_lemma =>
                 go_wp2_with fail
                 go_ret2
                 exact ⟨⟨_,_,rfl,fun h=>by simp at h⟩,HB0.out.trans (HBE.out.mono HB0.out.size)⟩
                ·skip
                 have dq17:decide (t.K < t.M) = false:=decide_eq_false q17
                 by_cases q18:64 < t.K
                 ·skip
                  have dq18:decide (64 < t.K) = true:=decide_eq_true q18
                  as_aux_lemma =>
                  go_wp2_with fail
                  go_ret2
                  exact ⟨⟨_,_,rfl,fun h=>by simp at h⟩,HB0.out.trans (HBE.out.mono HB0.out.size)⟩
                 ·skip
                  have dq18:decide (64 < t.K) = false:=decide_eq_false q18
                  cases pb2 with
                  | true =>
                   as_aux_lemma =>
                   go_wp2_with fail
                   go_ret2
                   exact ⟨⟨_,_,rfl,fun h=>by simp at h⟩,HB0.out.trans (HBE.out.mono HB0.out.size)⟩
                  | false =>
                   have HONE:Hid (∀ i,i < j + 1 → OneOk tk i):=fun i hi=>by
                    by_cases e:i = j
                    ·subst e
                     obtain ⟨e1,e2⟩:=HN2.out rfl
                     obtain ⟨e3,e4⟩:=HP2.out rfl
                     obtain ⟨e5,e6,e7,e8⟩:=HMB.out rfl
                     have e9:=HTJ.out
                     have e10:=HNK.out
                     have e11:=HPR.out
                     rw [e9] at e10 e11
                     refine ⟨by rw [e9,e10];exact e1,by rw [e9];exact ⟨by omega,by omega,by omega,by omega,by omega,by omega,e5,e6,e7,e8,by omega,by omega,by omega,by omega,by omega⟩,fun k hk=>by rw [e9,e10];exact e2 k hk,fun k hk=>by rw [e9,e11];exact e4 k hk⟩
                    ·exact HK.out i (by omega)
                   as_aux_lemma =>
                   go_wp2_with fail
                   go_roundw
                   case rel=>exact ⟨j + 1,by omega,by simp,HONE,HBE⟩
                   case measure=>simp [intOf];omega
  ·have hkn:k = n:=by omega
   subst hkn
   have hdl:decide ((k:Int) < (k:Int)) = false:=decide_eq_false (by omega)
   go_wp2_with fail
   go_ret2
   have h1:=H1.out
   have h2:=H2.out
   have h3:=H3.out
   have h4:=H4.out
   exact ⟨⟨0,_,rfl,fun _=>⟨by omega,by omega,by omega,by omega,fun i hi=>(HK.out i hi).nm,fun i hi=>(HK.out i hi).ok,fun i k hi hk=>(HK.out i hi).df k hk,fun i k hi hk=>(HK.out i hi).pr k hk⟩⟩,HB0.out.trans (HB.out.mono HB0.out.size)⟩
end
section
open Go.RowKit
theorem rright_any (B:Nat) (bu:Int) (a:Option Addr) (n c:Nat) (tk:Nat → Tk) (w:World) (hx:TksIn B w a n tk) (hB:B ≤ w.heap.size) (hn:n ≤ 9223372036854775807) :
  Calls Tryz.prog 14 #[.agg #[.int .i64 bu,.slice a n c]] w fun e w'=>RetB e (SetOk bu n tk) ∧ Below w.heap.size w w':=by
 have hb0:=bel_alloc (Below.refl w.heap.size w) (.cells #[.int .i64 bu,.slice a n c] 24)
 have H:=Lib.hid (rwhy_any B bu a n c tk (w.alloc (.cells #[.int .i64 bu,.slice a n c] 24)) (hx.keep (hb0.mono hB)) (Nat.le_trans hB hb0.size) hn)
 have HB:=Lib.hid hb0
 clear hx hb0
 go_enter Tryz.func14,Tryz.ntmps14
 go_wp2_with (go_at_call 32;refine H.out.mono ?_;rintro e w2 ⟨⟨x,y,rfl,hxy⟩,hb2⟩;have HXY:=Lib.hid hxy;clear H hxy)
 all_goals
  go_ret
  exact ⟨⟨_,rfl,fun h=>HXY.out (by simpa using h)⟩,HB.out.trans (hb2.mono HB.out.size)⟩
end
section
open Go.RowKit
theorem rsmall_any (B:Nat) (bu:Int) (a:Option Addr) (n c:Nat) (tk:Nat → Tk) (w:World) (hx:TksIn B w a n tk) (hB:B ≤ w.heap.size) (hn:n ≤ 9223372036854775807) :
  Calls Tryz.prog 27 #[.agg #[.int .i64 bu,.slice a n c]] w fun e w'=>AnyB e ∧ Below w.heap.size w w':=by
 have hb0:=bel_alloc (Below.refl w.heap.size w) (.cells #[.int .i64 bu,.slice a n c] 24)
 have hx1:=Lib.hid (hx.keep (hb0.mono hB))
 have hbox1:=cell_newb w #[.int .i64 bu,.slice a n c] 24 _ 1 _ rfl rfl
 have hsz:=one_lt w (.cells #[.int .i64 bu,.slice a n c] 24)
 clear hx
 go_enter Tryz.func27,Tryz.ntmps27
 go_wp2_with fail
 generalize w.alloc (.cells #[.int .i64 bu,.slice a n c] 24) = w1 at hb0 hbox1 hsz hx1 ⊢
 have HB0:=Lib.hid hb0
 clear hb0
 go_loopw [3] (fun ix wx=>∃ k:Nat,k ≤ n ∧ k ≤ 20 ∧ ix = .int .i64 k ∧ wx = w1) (fun ix _=>n - (intOf ix).toNat)
 case atStart=>exact ⟨0,Nat.zero_le _,by omega,rfl,rfl⟩
 case round =>
  obtain ⟨k,hk,hk20,rfl,rfl⟩:=hrel
  by_cases hlt:k < n
  ·have hkI:(k:Int) < (n:Int):=by omega
   have hk0:(0:Int) ≤ (k:Int):=by omega
   have hdl:decide ((k:Int) < (n:Int)) = true:=decide_eq_true hkI
   by_cases h40:k < 20
   ·have hd4:decide ((k:Int) < 20) = true:=decide_eq_true (by omega)
    obtain ⟨b,off,rfl,hbB,hcc⟩:=hx1.out (by omega)
    have hq:=hcc k (by omega) 0 _ rfl
    simp only [Nat.add_zero] at hq
    have hq2:=hcc k (by omega) 2 _ rfl
    have Hx:=Lib.hid hx1
    clear hx1 hcc
    go_wp2_with fail
    all_goals first
     |(go_ret;exact ⟨⟨_,rfl⟩,HB0.out⟩)
     |(go_roundw
       case rel=>exact ⟨k + 1,by omega,by omega,by simp,by simp⟩
       case measure=>simp [intOf];omega)
   ·have hd4:decide ((k:Int) < 20) = false:=decide_eq_false (by omega)
    go_wp2_with fail
    all_goals (go_ret;exact ⟨⟨_,rfl⟩,HB0.out⟩)
  ·have hkn:k = n:=by omega
   subst hkn
   have hdl:decide ((k:Int) < (k:Int)) = false:=decide_eq_false (by omega)
   go_wp2_with fail
   all_goals (go_ret;exact ⟨⟨_,rfl⟩,HB0.out⟩)
theorem small_any (B:Nat) (bu:Int) (a:Option Addr) (n c:Nat) (tk:Nat → Tk) (w:World) (hx:TksIn B w a n tk) (hB:B ≤ w.heap.size) (hn:n ≤ 9223372036854775807) :
  Calls Tryz.prog 8 #[.agg #[.int .i64 bu,.slice a n c]] w fun e w'=>RetB e (SetOk bu n tk) ∧ Below w.heap.size w w':=by
 have hb0:=bel_alloc (Below.refl w.heap.size w) (.cells #[.int .i64 bu,.slice a n c] 24)
 have hbox0:=cell_newb w #[.int .i64 bu,.slice a n c] 24 _ 0 _ rfl rfl
 have hbox1:=cell_newb w #[.int .i64 bu,.slice a n c] 24 _ 1 _ rfl rfl
 have hsz:=one_lt w (.cells #[.int .i64 bu,.slice a n c] 24)
 have HB:=Lib.hid hb0
 have H1:=Lib.hid (rsmall_any B bu a n c tk (w.alloc (.cells #[.int .i64 bu,.slice a n c] 24)) (hx.keep (hb0.mono hB)) (Nat.le_trans hB hb0.size) hn)
 have H2:Hid (∀ W,Below w.heap.size w W → Calls Tryz.prog 14 #[.agg #[.int .i64 bu,.slice a n c]] W fun e w'=>RetB e (SetOk bu n tk) ∧ Below W.heap.size W w'):=fun W hW=>rright_any B bu a n c tk W (hx.keep (hW.mono hB)) (by have:=hW.size;omega) hn
 clear hx hb0
 go_enter Tryz.func8,Tryz.ntmps8
 go_wp2_with (first | (go_at_call 27;refine H1.out.mono ?_;rintro e w2 ⟨⟨b1,rfl⟩,hq2⟩;have HQ2:=Lib.hid (HB.out.trans (hq2.mono HB.out.size));have x0:=cell_bel hq2 hbox0;have x1:=cell_bel hq2 hbox1;have hs2:w.heap.size < w2.heap.size:=block_lt x0;clear hq2 H1 hbox0 hbox1 hsz) | (go_at_call 14;refine (H2.out _ HQ2.out).mono ?_;rintro e w3 ⟨⟨b2,rfl,hb2⟩,hq3⟩;have HB2:=Lib.hid hb2;clear hb2))
 all_goals go_ret
 all_goals first
  | exact ⟨⟨false,rfl,fun h=>by cases h⟩,HQ2.out⟩
  | exact ⟨⟨_,rfl,HB2.out⟩,HQ2.out.trans (hq3.mono HQ2.out.size)⟩
end
end Go.Proofs.YtnoahekcemfmcaaGreatDoor
