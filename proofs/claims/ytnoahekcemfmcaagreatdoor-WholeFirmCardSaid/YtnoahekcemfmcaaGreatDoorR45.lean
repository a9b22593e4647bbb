/- A part of the walk: Xv Lg Lh Li Lj. -/
import Derived.Test.YtnoahekcemfmcaaGreatDoorR32
import Derived.Test.YtnoahekcemfmcaaGreatDoorR42
import Derived.Test.YtnoahekcemfmcaaGreatDoorR44
namespace Go.Proofs.YtnoahekcemfmcaaGreatDoor
set_option linter.unusedVariables false
set_option linter.unusedSimpArgs false
set_option maxHeartbeats 80000000
set_option maxRecDepth 100000
section
open Go.RowKit
section
variable {B n:Nat} {A:XFix} {bu:Int} {tk:Nat → Tk} {w w':World} {s:St} {out:List Ev} {Mx:Nat} {col:Nat → Nat} {F:Nat → Prop} {hm:List Q} {so:Value} {jbk:Nat → Nat} {gs:List Gate} {kj:Nat → Option Jb} {T:Nat → Prop}
theorem tick_now {s s':St} {rs:List (Int × Int)} {hit:Bool} {ev:List Ev} (h:Tick1 tk n s rs hit s' ev):s'.now = s.now + 1:=by
 cases h with
 | mk h2 h3 =>
  show _ + 1 = _
  rw [run_now h3,(rels_same h2).1,(late_to (tk:=tk) s n).1.now]
theorem inv_zero (hok:∀ k,k < n → (tk k).Ok):Inv tk n 0 (St0 tk) :=
 ⟨fun i j hi e=>(by cases e),fun i j hi e=>(by cases e),fun i j hi e=>(by cases e),fun i hi=>by
  have:=(hok i hi).c1;have:=(hok i hi).cd;have:=(hok i hi).dt
  show (0:Int) ≤ 0 - 0 + _
  omega,fun i hi=>Int.le_refl _⟩
theorem RelsIn.more {B2:Nat} {a:Option Addr} {rs:List (Int × Int)} (h:RelsIn B w a rs) (hb:B ≤ B2):RelsIn B2 w a rs:=fun h0=>by
 obtain ⟨b,off,e,hlt,hc⟩:=h h0
 exact ⟨b,off,e,by omega,hc⟩
theorem relsN_app (l m:List (List (Int × Int) × Bool)):relsN (l ++ m) = relsN l + relsN m:=by
 unfold relsN;rw [List.map_append,List.sum_append]
theorem srun_even (B:Nat) (bu:Int) (a:Option Addr) (n c:Nat) (tk:Nat → Tk) (ai:Option Addr) (ci:Nat) (l:List (List (Int × Int) × Bool)) (w:World) (h:SetOk bu n tk) (hx:TksIn B w a n tk) (hi:InsIn B w ai l) (hB:B ≤ w.heap.size) (hnc:n ≤ c)
  (hl:l.length ≤ 10000) (hr:relsN l ≤ 100000) (kd:Int) (hkd:kd = 1 ∨ kd = 2) :
  Calls Tryz.prog 11 #[.agg #[.int .i64 bu,.slice a n c],.int .i64 kd,.slice ai l.length ci] w fun e w'=>∃ v s' ev,e = .returned (.tuple #[v,.int .i64 0]) ∧ Ticks tk n (St0 tk) l s' ev ∧ w'.ownsRow w.heap.size 44 5 v ev.length (ev.flatMap evc) ∧ Below w.heap.size w w':=by
 have hb0:=bel_alloc (Below.refl w.heap.size w) (.cells #[.int .i64 bu,.slice a n c] 24)
 have hx1:=hx.keep (hb0.mono hB)
 have HN:=Lib.hid (xnew_even B bu a n c tk (w.alloc (.cells #[.int .i64 bu,.slice a n c] 24)) h hx1 (Nat.le_trans hB hb0.size) hnc kd hkd)
 have HI:=Lib.hid hi
 have HS:=Lib.hid h
 have hn16:=h.n2
 have hlI:(l.length:Int) ≤ 10000:=by omega
 have hl0:decide ((100000:Int) < (l.length:Int)) = false:=decide_eq_false (by omega)
 have HB0:=Lib.hid hb0
 clear hx hx1 hi h hb0
 go_enter Tryz.func11,Tryz.ntmps11
 go_wp2_with (go_at_call 16;refine HN.out.mono ?_;rintro e w1 ⟨A,col1,F1,jb1,gs1,rfl,hX,hb1,hc1⟩;have HX:=Lib.hid hX;have HB1:=Lib.hid hb1;have HC1:=Lib.hid hc1;clear HN hX hb1 hc1)
 obtain ⟨B1,hB1⟩:∃ B1,B1 = (w.alloc (.cells #[.int .i64 bu,.slice a n c] 24)).heap.size:=⟨_,rfl⟩
 rw [← hB1] at HX HB1 HC1
 have hwB:w.heap.size ≤ B1:=by rw [hB1];simp
 have hB1w:B1 ≤ w1.heap.size:=by rw [hB1];exact HB1.out.size
 have HIS:Hid (∀ W,Fr (fun q=>col1 q ≠ 0) w1 W → InsIn B W ai l):=fun W hf =>
  (HI.out.keep hB (Fr.of_below (S:=fun _=>False) (HB0.out.trans ((HB1.out).mono hwB))) (fun _ _ t=>t)).keep (by omega) hf (fun b hb e=>e (HC1.out b (by omega)))
 clear HI hB1
 obtain ⟨i4,ki4,kz4,kz5,kz6⟩:=info_parts Tryz.info44
 go_loopw [30,10,12,13,14] (fun ix s10 s12 s13 s14 wx=>∃ k:Nat,k ≤ l.length ∧ ix = .int .i64 k ∧ Hid (∃ s ev col so F hm jbk gs out',Ticks tk n (St0 tk) (l.take k) s ev ∧ Inv tk n 0 s ∧ s.now = k ∧ ev.length ≤ k * (n + 2) + relsN (l.take k) ∧ XW B1 A bu n tk wx s out' (k * (n + 2) + relsN (l.take k)) col F hm so jbk gs s.job ∧ XR col1 w1 col wx ∧ wx.ownsRow w1.heap.size 44 5 s10 ev.length (ev.flatMap evc) ∧ ∀ q,s10.ownBlock = some q → col q = 0)) (fun ix _ _ _ _ _=>l.length - (intOf ix).toNat)
 case atStart=>exact ⟨0,Nat.zero_le _,rfl,St0 tk,[],col1,.slice none 0 0,F1,[],jb1,gs1,[],.nil _,inv_zero HS.out.ok,rfl,by simp,by simpa [relsN] using HX.out,XR.refl _ _,World.ownsRow_nil _ _ _ _,fun q e=>by simp [Value.ownBlock] at e⟩
 case round =>
  obtain ⟨k,hk,rfl,HR⟩:=hrel
  by_cases hlt:k < l.length
  ·have hkI:(k:Int) < (l.length:Int):=by omega
   have hk0:(0:Int) ≤ (k:Int):=by omega
   have hdl:decide ((k:Int) < (l.length:Int)) = true:=decide_eq_true hkI
   obtain ⟨s,ev,col,so,F,hm,jbk,gs,out',q1,q2,q3,q4,q5,q6,q7,q8⟩:=HR.out
   obtain ⟨a10,c10,h10⟩:=ownsRow_form q7
   subst h10
   obtain ⟨b,off,hai,hbB,hcs⟩:=(HIS.out wr q6.fr) (by omega)
   subst hai
   obtain ⟨aj,cj,c0,c1,c2⟩:=hcs k hlt
   have hrt:=relsN_take l k hlt
   have hrl:relsN (l.take (k + 1)) ≤ relsN l:=by
    have:=relsN_app (l.take (k + 1)) (l.drop (k + 1))
    rw [List.take_append_drop] at this
    omega
   obtain ⟨x,hxk⟩:∃ x,x = l[k]:=⟨_,rfl⟩
   rw [← hxk] at c0 c1 c2 hrt
   have htk:=take_more l k hlt
   rw [← hxk] at htk
   have hbb:=bel_alloc (Below.refl wr.heap.size wr) (.cells #[.slice aj x.1.length cj,.bool x.2] 55)
   have hkn:k * (n + 2) ≤ 10000 * (n + 2):=Nat.mul_le_mul_right _ (by omega)
   have hk1:(k + 1) * (n + 2) = k * (n + 2) + n + 2:=by rw [Nat.add_mul];omega
   have HT:=Lib.hid (tick_is (q5.below hbb) q2 aj cj x.1 ((c2.more (by omega)).keep (by have:=q5.low.1;omega) (Fr.of_below (S:=fun _=>False) hbb) (fun _ _ t=>t)) x.2 (by omega) (by omega) (by omega))
   have HQ:Hid (Ticks tk n (St0 tk) (l.take k) s ev ∧ s.now = k ∧ ev.length ≤ k * (n + 2) + relsN (l.take k) ∧ wr.ownsRow w1.heap.size 44 5 (.slice a10 ev.length c10) ev.length (ev.flatMap evc) ∧ (∀ q,(Value.slice a10 ev.length c10).ownBlock = some q → col q = 0) ∧ XR col1 w1 col wr ∧ B1 ≤ wr.heap.size):=⟨q1,q3,q4,q7,q8,q6,q5.low.1⟩
   have hE:ev.length ≤ 400000:=by omega
   have hxl:x.1.length ≤ 100000:=by omega
   have HXK:=Lib.hid hxk
   have HTK:=Lib.hid htk
   have HRT:=Lib.hid hrt
   have HK1:=Lib.hid hk1
   clear q1 q2 q3 q4 q5 q6 q7 q8 HR hcs c2 hxk htk hrt hk1 hrl hkn
   have HBB:=Lib.hid hbb
   clear hbb
   go_wp2_with (first | (go_at_call 18;refine HT.out.mono ?_;rintro e w6 ⟨v6,s6,ev6,rfl,p1,p2,p3,col6,so6,F6,hm6,jb6,gs6,out6,H6,R6,p4⟩;obtain ⟨a6,c6,h6⟩:=ownsRow_form p3;subst h6;have hE6:ev6.length ≤ 200000:=by { have:=events_few p1;omega };have hF6:Fr (fun q=>col q ≠ 0) wr w6:=(Fr.of_below (S:=fun _=>False) HBB.out).trans R6.fr (fun _ _ t=>t.elim) (fun _ _ t=>t);have HO10:=Lib.hid (own_fr2 HQ.out.2.2.2.1 hF6 (fun q e t=>t (HQ.out.2.2.2.2.1 q e)));have HP1:=Lib.hid p1;have HP2:=Lib.hid p2;have HP3:=Lib.hid p3;have HP4:=Lib.hid p4;have HH6:=Lib.hid H6;have HR6:=Lib.hid R6;have hs16:w1.heap.size ≤ w6.heap.size:=Nat.le_trans HQ.out.2.2.2.2.2.1.fr.size hF6.size;have HF6:=Lib.hid hF6;clear p1 p2 p3 p4 H6 R6 HT hF6) | (at_builtin;refine wpList_append_row rfl _ _ 36 rfl w1.heap.size 44 i4 _ 5 40 Tryz.underlying36 ki4 kz4 kz5 kz6 rfl (by omega) (.slice a10 ev.length c10) ev.length (ev.flatMap evc) rfl HO10.out (.slice a6 ev6.length c6) ev6.length (ev6.flatMap evc) rfl (evs_len ev6) (own_src HP3.out (fun e=>by rw [List.eq_nil_of_length_eq_zero e];rfl) (fun _ _ _=>rfl)) (evs_one ev6) (by unfold maxLen;omega) (by omega) hs16 ?_;intro v7 w7 own7 gr7 at7))
   have HN:Hid (∃ s ev col so F hm jbk gs out',Ticks tk n (St0 tk) (l.take (k + 1)) s ev ∧ Inv tk n 0 s ∧ s.now = k + 1 ∧ ev.length ≤ (k + 1) * (n + 2) + relsN (l.take (k + 1)) ∧ XW B1 A bu n tk w7 s out' ((k + 1) * (n + 2) + relsN (l.take (k + 1))) col F hm so jbk gs s.job ∧ XR col1 w1 col w7 ∧ w7.ownsRow w1.heap.size 44 5 v7 ev.length (ev.flatMap evc) ∧ ∀ q,v7.ownBlock = some q → col q = 0):=by
    obtain ⟨r1,r2,r3,r4,r5,r6,r7⟩:=HQ.out
    have hev:=events_few HP1.out
    have hg7:Fr (fun q=>(Value.slice a10 ev.length c10).ownBlock = some q) w6 w7:=Fr.grown (Fr.refl _ _) gr7 (fun g e _=>e)
    have h10c:∀ q,(Value.slice a10 ev.length c10).ownBlock = some q → col6 q = 0:=fun q e=>by
     by_cases hq:q < wr.heap.size
     ·exact HR6.out.c0 q (Nat.lt_of_lt_of_le hq HBB.out.size) (r5 q e)
     ·exact absurd (r4.lt q e).2 hq
    refine ⟨s6,ev ++ ev6,col6,so6,F6,hm6,jb6,gs6,out6,?_,HP2.out,?_,?_,?_,?_,?_,?_⟩
    ·rw [HTK.out];exact r1.snoc HP1.out
    ·rw [tick_now HP1.out,r2]
    ·rw [List.length_append,HK1.out,HRT.out];omega
    ·have h7:=HH6.out.keep hg7 h10c
     rw [HK1.out,HRT.out,show k * (n + 2) + n + 2 + (relsN (List.take k l) + x.1.length) = k * (n + 2) + relsN (List.take k l) + n + x.1.length + 2 by omega]
     exact h7
    ·refine ⟨(r6.fr.trans HF6.out (fun _ _ t=>t) (fun q hq t=>fun e=>t (r6.c0 q hq e))).trans hg7 (fun _ _ t=>t) (fun q hq t=>?_),fun q hq e=>HR6.out.c0 q (by have:=r6.fr.size;have:=HBB.out.size;omega) (r6.c0 q hq e)⟩
     have:=ownsRow_block r4 q t
     omega
    ·rw [List.length_append,List.flatMap_append];exact own7
    ·intro q e
     rcases at7 with t | t
     ·rw [t] at e;exact h10c q e
     ·rw [t] at e
      cases e
      by_cases hz:col6 w6.heap.size = 0
      ·exact hz
      ·have:=(HH6.out.c.lt _ hz).2;omega
   clear HP1 HP2 HP3 HP4 HH6 HR6 HQ HTK HRT HK1 HXK own7 gr7 at7
   go_wp2_with fail
   go_roundw
   case rel=>exact ⟨k + 1,by omega,by simp,HN⟩
   case measure=>simp [intOf];omega
  ·have hkn:k = l.length:=by omega
   subst hkn
   have hdl:decide ((l.length:Int) < (l.length:Int)) = false:=decide_eq_false (by omega)
   obtain ⟨s,ev,col,so,F,hm,jbk,gs,out',q1,q2,q3,q4,q5,q6,q7,q8⟩:=HR.out
   obtain ⟨a10,c10,h10⟩:=ownsRow_form q7
   subst h10
   rw [List.take_length] at q1
   have HQ:Hid (Ticks tk n (St0 tk) l s ev ∧ wr.ownsRow w.heap.size 44 5 (.slice a10 ev.length c10) ev.length (ev.flatMap evc) ∧ Below w.heap.size w wr):=⟨q1,own_base q7 (Nat.le_trans hwB hB1w),HB0.out.trans (((HB1.out).mono hwB).trans (q6.fr.below (fun q _ e=>by
    by_cases h:B1 ≤ q
    ·omega
    ·exact absurd (HC1.out q (by omega)) e) (by omega)))⟩
   clear q1 q2 q3 q4 q5 q6 q7 q8 HR
   go_wp2_with fail
   go_ret2
   exact ⟨_,s,ev,rfl,HQ.out⟩
end
end
section
open Go.RowKit
structure AdD (w:World) (ab b2 c2:Nat):Prop where
 l:AdL w ab b2 c2
 c1:w.cell? ⟨ab,1,none⟩ = some (.int .u32 1)
 fz:∀ o,w.frozen? ⟨ab,o,none⟩ = false
 tk:TksIn w.heap.size w (some ⟨b2,0,none⟩) 3 tkS
 cp:3 ≤ c2
theorem AdD.below {w w':World} {ab b2 c2:Nat} (h:AdD w ab b2 c2) (hb:Below w.heap.size w w'):AdD w' ab b2 c2 :=
 ⟨⟨cell_bel hb h.l.c5,cell_bel hb h.l.c6,cell_bel hb h.l.c10,cell_bel hb h.l.c14⟩,cell_bel hb h.c1,fun o=>((Fr.of_below (S:=fun _=>False) hb).frozen (p:=⟨ab,o,none⟩) (show ab < _ from block_lt h.c1) (by simp)).trans (h.fz o),fun h0=>by
  obtain ⟨b,off,e,hlt,hc⟩:=h.tk.keep hb h0
  exact ⟨b,off,e,Nat.lt_of_lt_of_le hlt hb.size,hc⟩,h.cp⟩
theorem look_first (w:World) (ab tb tc:Nat) (hA:AdB w ab) (ht:w.cell? ⟨ab,0,none⟩ = some (.slice (some ⟨tb,0,none⟩) textL.length tc)) (h1:w.cell? ⟨ab,1,none⟩ = some (.int .u32 0)) (h2:w.cell? ⟨ab,2,none⟩ = some (.int .i32 0)) (h4:∃ v:Int,w.cell? ⟨ab,4,none⟩ = some (.int .i64 v))
  (hb:BytesIn w tb 0 textL) (hcap:textL.length ≤ tc) (n2:tb ≠ ab) :
  Calls Tryz.prog 51 #[.pointer (some ⟨ab,0,none⟩)] w fun e w'=>e = .returned (.tuple #[]) ∧ (∃ b2 c2,AdD w' ab b2 c2) ∧ Fr (fun q=>q = ab) w w':=by
 have hal:ab < w.heap.size:=block_lt ht
 have hbA:=bel_alloc (Below.refl w.heap.size w) (.cells #[.pointer (some ⟨ab,0,none⟩)] 70)
 have hbox:=cell_newb w #[.pointer (some ⟨ab,0,none⟩)] 70 _ 0 _ rfl rfl
 have d1:=cell_bel hbA h1
 have d2:=cell_bel hbA h2
 have dt:=cell_bel hbA ht
 have dA:=hA.fr (S:=fun _=>False) (Fr.of_below hbA) (by simp)
 have dby:BytesIn (w.alloc (.cells #[.pointer (some ⟨ab,0,none⟩)] 70)) tb 0 textL:=fun j hj=>cell_bel hbA (hb j hj)
 have d4:∃ v:Int,(w.alloc (.cells #[.pointer (some ⟨ab,0,none⟩)] 70)).cell? ⟨ab,4,none⟩ = some (.int .i64 v):=by obtain ⟨v,hv⟩:=h4;exact ⟨v,cell_bel hbA hv⟩
 have hal2:ab < (w.alloc (.cells #[.pointer (some ⟨ab,0,none⟩)] 70)).heap.size:=Nat.lt_of_lt_of_le hal hbA.size
 have hDO:=do86 (b:=ab) (off:=1) (w:=w.alloc (.cells #[.pointer (some ⟨ab,0,none⟩)] 70)) (R:=fun w1=>(∃ b2 c2,AdL w1 ab b2 c2 ∧ TksIn w1.heap.size w1 (some ⟨b2,0,none⟩) 3 tkS ∧ 3 ≤ c2 ∧ w.heap.size ≤ b2) ∧ Fr (fun q=>q = ab) ((w.alloc (.cells #[.pointer (some ⟨ab,0,none⟩)] 70)).setCell ⟨ab,2,none⟩ (.int .i32 1)) w1 ∧ ∀ o,w1.frozen? ⟨ab,o,none⟩ = false)
  (.pointer (some ⟨w.heap.size,0,none⟩)) d1 d2 (dA.fz 1) (dA.fz 2)
  ((lookc_is _ ab w.heap.size tb tc (by rw [World.cell?_setCell_other _ _ _ _ (addr_ne' (by omega))];exact hbox) (dA.set 2 _) (by rw [get_ne (by omega)];exact dt) (by obtain ⟨v,hv⟩:=d4;exact ⟨v,by rw [get_ne (by omega)];exact hv⟩)
   (dby.keep (by rw [textL_len];omega) (fr_set (Fr.refl _ _) 2 _) n2) hcap (by omega) n2 (dA.get 2 _ (by omega))).mono fun e w' ⟨he,⟨b2,c2,g1,g2,g3,g4⟩,g5,gz,g6⟩=>⟨he,⟨⟨b2,c2,g1,g2,g3,by
    have:w.heap.size ≤ ((w.alloc (.cells #[.pointer (some ⟨ab,0,none⟩)] 70)).setCell ⟨ab,2,none⟩ (.int .i32 1)).heap.size:=by simp [World.setCell]
    omega⟩,g5,gz⟩,g6⟩)
 have HDO:=Lib.hid hDO
 have HB:=Lib.hid hbA
 have HG:=Lib.hid dA
 clear hDO hA ht h1 h2 h4 hb d1 d2 dt dA dby d4
 go_enter Tryz.func51,Tryz.ntmps51
 go_wp2_with (go_at_call 85;refine HDO.out.mono ?_;rintro e w3 ⟨rfl,w2,⟨⟨b2,c2,g1,g2,g3,g4⟩,g5,gz⟩,gk,rfl⟩)
 go_end0
 have hb2s:=g2 (by omega)
 have F0:Fr (fun q=>q = ab) w w2:=((Fr.of_below (S:=fun q=>q = ab) HB.out).setCell (p:=⟨ab,2,none⟩) rfl (.int .i32 1)).trans g5 (fun _ _ e=>e) (fun _ _ e=>e)
 have FE:Fr (fun q=>q = ab) w2 ((w2.setCell ⟨ab,1,none⟩ (.int .u32 1)).setCell ⟨ab,2,none⟩ (.int .i32 0)).drew:=(((Fr.refl (fun q=>q = ab) w2).setCell (p:=⟨ab,1,none⟩) rfl _).setCell (p:=⟨ab,2,none⟩) rfl _).drew
 obtain ⟨u1,hu1⟩:=gk.1
 have hne:∀ j,j ≠ 1 → j ≠ 2 → ((w2.setCell ⟨ab,1,none⟩ (.int .u32 1)).setCell ⟨ab,2,none⟩ (.int .i32 0)).drew.cell? ⟨ab,j,none⟩ = w2.cell? ⟨ab,j,none⟩:=fun j h1 h2=>by
  rw [World.cell?_drew,get_ne (by omega),get_ne (by omega)]
 refine ⟨rfl,⟨b2,c2,⟨⟨(hne 5 (by omega) (by omega)).trans g1.c5,(hne 6 (by omega) (by omega)).trans g1.c6,(hne 10 (by omega) (by omega)).trans g1.c10,(hne 14 (by omega) (by omega)).trans g1.c14⟩,?_,?_,?_,g3⟩⟩,F0.trans FE (fun _ _ e=>e) (fun _ _ e=>e)⟩
 ·rw [World.cell?_drew,get_ne (by omega)]
  exact World.cell?_setCell_same _ _ _ hu1
 ·intro o;show ((w2.setCell _ _).setCell _ _).frozen? _ = _;rw [World.frozen?_setCell,World.frozen?_setCell];exact gz o
 ·intro h0
  obtain ⟨bb,oo,e1,e2,e3⟩:=(g2.fr (Nat.le_refl _) FE (fun b _ ⟨oo,ho⟩ e=>by cases ho;omega)) h0
  exact ⟨bb,oo,e1,Nat.lt_of_lt_of_le e2 FE.size,e3⟩
theorem look_again (w:World) (ab b2 c2:Nat) (h:AdD w ab b2 c2) :
  Calls Tryz.prog 51 #[.pointer (some ⟨ab,0,none⟩)] w fun e w'=>e = .returned (.tuple #[]) ∧ AdD w' ab b2 c2 ∧ Below w.heap.size w w':=by
 have hbA:=bel_alloc (Below.refl w.heap.size w) (.cells #[.pointer (some ⟨ab,0,none⟩)] 70)
 have hDO:=Lib.hid (do86_done (b:=ab) (off:=1) (.pointer (some ⟨w.heap.size,0,none⟩)) (h.below hbA).c1)
 have HA:=Lib.hid (And.intro (h.below hbA) hbA)
 clear h hbA
 go_enter Tryz.func51,Tryz.ntmps51
 go_wp2_with (go_at_call 85;refine hDO.out.mono ?_;rintro e w3 ⟨rfl,rfl⟩)
 go_end0
 exact ⟨rfl,HA.out⟩
theorem gap_first (w:World) (ab tb tc:Nat) (hA:AdB w ab) (ht:w.cell? ⟨ab,0,none⟩ = some (.slice (some ⟨tb,0,none⟩) textL.length tc)) (h1:w.cell? ⟨ab,1,none⟩ = some (.int .u32 0)) (h2:w.cell? ⟨ab,2,none⟩ = some (.int .i32 0)) (h4:∃ v:Int,w.cell? ⟨ab,4,none⟩ = some (.int .i64 v))
  (hb:BytesIn w tb 0 textL) (hcap:textL.length ≤ tc) (n2:tb ≠ ab) :
  Calls Tryz.prog 25 #[.pointer (some ⟨ab,0,none⟩)] w fun e w'=>e = .returned (.tuple #[.int .i64 6,.int .i64 0]) ∧ (∃ b2 c2,AdD w' ab b2 c2) ∧ Fr (fun q=>q = ab) w w':=by
 have HL:=Lib.hid (look_first w ab tb tc hA ht h1 h2 h4 hb hcap n2)
 have hm:Tryz.prog.follows .mixedOrders = true:=by kernel_rfl
 clear hA ht h1 h2 h4 hb
 go_enter Tryz.func25,Tryz.ntmps25
 go_wp2_with (go_at_call 51;refine HL.out.mono ?_;rintro e w2 ⟨rfl,⟨b2,c2,hd⟩,f2⟩;have q10:=fun d os=>cell_regrown hd.l.c10 d os;have q14:=fun d os=>cell_regrown hd.l.c14 d os)
 refine wp_region_quiet_below hm (by kernel_rfl) ?_
 repeat (quiet_step (fail))
 refine wpQuiet_nil ?_
 intro _ hw'
 obtain ⟨⟨dq,osq⟩,hw''⟩:=hw'
 subst hw''
 have hbq:=below_regrown w2 dq osq
 go_wp2_with fail
 go_ret2
 exact ⟨rfl,⟨b2,c2,hd.below hbq⟩,f2.trans (Fr.of_below (S:=fun q=>q = ab) hbq) (fun _ _ e=>e) (fun _ _ e=>e)⟩
end
section
open Go.RowKit
def lS:List (List (Int × Int) × Bool):=[([(0,3)],false),([],false),([],false),([],false),([],false)]
def oS (k j i:Nat):Int:=if k = 0 ∧ j = 0 then 0 else if i = 0 then 20 else 0
theorem lS_len:lS.length = 5:=rfl
theorem relStated:RelOk tkS 3 lS oS where
 z:=fun i hi=>rfl
 s:=fun k h j hj=>by
  have hk:k = 0 ∨ k = 1 ∨ k = 2 ∨ k = 3 ∨ k = 4:=by rw [lS_len] at h;omega
  rcases hk with rfl | rfl | rfl | rfl | rfl
  ·have hj1:j < 1:=hj
   obtain rfl:j = 0:=by omega
   exact ⟨by decide +revert,by decide +revert,by decide +revert,by decide +revert,by decide +revert,three (by decide +revert) (by decide +revert) (by decide +revert)⟩
  all_goals exact absurd hj (Nat.not_lt_zero j)
 n:=fun k h i hi=>by
  have hk:k = 0 ∨ k = 1 ∨ k = 2 ∨ k = 3 ∨ k = 4:=by rw [lS_len] at h;omega
  have hi3:i = 0 ∨ i = 1 ∨ i = 2:=by omega
  rcases hk with rfl | rfl | rfl | rfl | rfl <;> rcases hi3 with rfl | rfl | rfl <;> decide +revert
theorem gapS:(6:Int) ≤ gapL 1 (faultsL (hitOf lS) lS.length):=by decide +kernel
theorem InsIn.more {B B2:Nat} {w:World} {a:Option Addr} {l:List (List (Int × Int) × Bool)} (h:InsIn B w a l) (hb:B ≤ B2):InsIn B2 w a l:=fun h0=>by
 obtain ⟨bb,oo,e1,e2,e3⟩:=h h0
 exact ⟨bb,oo,e1,by omega,fun j hj=>by obtain ⟨aj,cj,c1,c2,c3⟩:=e3 j hj;exact ⟨aj,cj,c1,c2,c3.more hb⟩⟩
theorem arun_is (w:World) (ab b2 c2 B:Nat) (ai:Option Addr) (ci:Nat) (h:AdD w ab b2 c2) (hi:InsIn B w ai lS) (hB:B ≤ w.heap.size) :
  Calls Tryz.prog 26 #[.pointer (some ⟨ab,0,none⟩),.int .i64 1,.slice ai lS.length ci] w fun e w'=>∃ v s' ev,e = .returned (.tuple #[v,.int .i64 0]) ∧ Ticks tkS 3 (St0 tkS) lS s' ev ∧ w'.ownsRow w.heap.size 44 5 v ev.length (ev.flatMap evc) ∧ Below w.heap.size w w':=by
 have hm:Tryz.prog.follows .mixedOrders = true:=by kernel_rfl
 have HL:=Lib.hid (look_again w ab b2 c2 h)
 have HI:=Lib.hid hi
 clear h hi
 go_enter Tryz.func26,Tryz.ntmps26
 go_wp2_with (go_at_call 51;refine HL.out.mono ?_;rintro e w2 ⟨rfl,hd,hb2⟩;have d14:=hd.l.c14;have HD:=Lib.hid hd;have HB2:=Lib.hid hb2;clear hd hb2 HL)
 have q5:=fun d os=>cell_regrown HD.out.l.c5 d os
 have q6:=fun d os=>cell_regrown HD.out.l.c6 d os
 have q10:=fun d os=>cell_regrown HD.out.l.c10 d os
 have HLG:Hid (∀ d os,Calls Tryz.prog 19 #[.agg #[.int .i64 1,.slice (some ⟨b2,0,none⟩) 3 c2],.int .i64 6,.slice ai lS.length ci] (Sort.grow (redrawn w2 d) os) fun e w''=>e = .returned (.bool true) ∧ ∃ p:Regrown,w'' = Sort.grow (redrawn w2 p.d) p.os):=fun d os=>by
  have hbq:=below_regrown w2 d os
  have hi2:=HI.out.keep hB (Fr.of_below (S:=fun _=>False) (HB2.out.trans (hbq.mono HB2.out.size))) (fun _ _ t=>t)
  have hdq:=HD.out.below hbq
  exact Calls.regrown_of (slegal_ok _ 1 _ 3 c2 tkS 6 ai ci lS oS _ stated_right hdq.tk (hi2.more (Nat.le_trans hB (HB2.out.trans (hbq.mono HB2.out.size)).size)) (Nat.le_refl _) hdq.cp (by decide) (by decide) (by decide) (by decide) relStated gapS)
 go_wp2_with fail
 refine wp_region_quiet_below hm (by kernel_rfl) ?_
 repeat (quiet_step (fail))
 quiet_step (exact HLG.out _ _)
 repeat (quiet_step (fail))
 refine wpQuiet_nil ?_
 intro _ hw'
 obtain ⟨⟨dq,osq⟩,hw''⟩:=hw'
 subst hw''
 have hbq:=below_regrown w2 dq osq
 have HDQ:=Lib.hid (HD.out.below hbq)
 have HB3:=Lib.hid (HB2.out.trans (hbq.mono HB2.out.size))
 clear q5 q6 q10 HLG d14 hbq
 generalize Sort.grow (redrawn w2 dq) osq = w3 at *
 have r5:=HDQ.out.l.c5
 have r6:=HDQ.out.l.c6
 have HR:=Lib.hid (srun_even _ 1 _ 3 c2 tkS ai ci lS w3 stated_right HDQ.out.tk ((HI.out.keep hB (Fr.of_below (S:=fun _=>False) HB3.out) (fun _ _ t=>t)).more (Nat.le_trans hB HB3.out.size)) (Nat.le_refl _) HDQ.out.cp (by decide) (by decide) 1 (.inl rfl))
 go_wp2_with (go_at_call 11;refine HR.out.mono ?_;rintro e w4 ⟨v,s',ev,rfl,ht,ho,hb4⟩)
 go_ret2
 exact ⟨v,s',ev,rfl,ht,own_base ho HB3.out.size,HB3.out.trans (hb4.mono HB3.out.size)⟩
end
section
open Go.RowKit
theorem rtask_stated:∀ k,k < 3 → ∀ w,Calls Tryz.prog 84 #[tkv (tkS k)] w fun e w'=>e = .returned (.string (TSs k)) ∧ Below w.heap.size w w' :=
 three (fun w=>rtask_any ⟨#[97]⟩ 20 18 3 0 2 1 1 1 1 0 w (by decide) (by decide) (by decide) (by decide) (by decide) (by decide) (by decide) (by decide) (by decide) (by decide) (by decide) (by decide))
  (fun w=>rtask_any ⟨#[98]⟩ 40 35 4 3 0 0 2 3 3 1 w (by decide) (by decide) (by decide) (by decide) (by decide) (by decide) (by decide) (by decide) (by decide) (by decide) (by decide) (by decide))
  (fun w=>rtask_any ⟨#[99]⟩ 80 70 6 2 0 0 1 2 2 2 w (by decide) (by decide) (by decide) (by decide) (by decide) (by decide) (by decide) (by decide) (by decide) (by decide) (by decide) (by decide))
theorem ts_size:∀ i,i < 3 → (TSs i).size ≤ 100:=three (by decide +kernel) (by decide +kernel) (by decide +kernel)
theorem stated_is (w:World):Calls Tryz.prog 24 #[] w fun e w'=>∃ sb,e = .returned (.agg #[.int .i64 1,.slice (some ⟨sb,0,none⟩) 3 3]) ∧ w.heap.size ≤ sb ∧ TksIn w'.heap.size w' (some ⟨sb,0,none⟩) 3 tkS ∧ Below w.heap.size w w':=by
 go_enter Tryz.func24,Tryz.ntmps24
 go_wp2_with fail
 obtain ⟨cs,hcs⟩:∃ cs:Array Value,cs = (tkc (tkS 0) ++ (tkc (tkS 1) ++ tkc (tkS 2))).toArray:=⟨_,rfl⟩
 have hb:=bel_alloc (bel_alloc (Below.refl w.heap.size w) (.cells #[.int .i64 1,.slice (some ⟨w.heap.size + 1,0,none⟩) 3 3] 24)) (.cells (tkc (tkS 0) ++ (tkc (tkS 1) ++ tkc (tkS 2))).toArray 41)
 have g1:((w.alloc (.cells #[.int .i64 1,.slice (some ⟨w.heap.size + 1,0,none⟩) 3 3] 24)).alloc (.cells (tkc (tkS 0) ++ (tkc (tkS 1) ++ tkc (tkS 2))).toArray 41)).rangeAt w.heap.size 0 [.int .i64 1,.slice (some ⟨w.heap.size + 1,0,none⟩) 3 3] :=
  rg_below (bel_alloc (Below.refl _ _) _) (by simp) (rg_new w _ _ _ rfl)
 have g2:((w.alloc (.cells #[.int .i64 1,.slice (some ⟨w.heap.size + 1,0,none⟩) 3 3] 24)).alloc (.cells (tkc (tkS 0) ++ (tkc (tkS 1) ++ tkc (tkS 2))).toArray 41)).rangeAt (w.heap.size + 1) 0 (tkc (tkS 0) ++ (tkc (tkS 1) ++ tkc (tkS 2))):=rg_new _ _ _ _ (by simp)
 refine bodyPost_ret (res_cell rfl _ _ w.heap.size _ _ rfl g1 Tryz.underlying24 rfl Tryz.size24) rfl ⟨w.heap.size + 1,rfl,by omega,fun _=>⟨w.heap.size + 1,0,rfl,by simp,?_⟩,hb⟩
 exact three (rg_left g2) (rg_left (rg_right g2)) (rg_right (rg_right g2))
end
section
open Go.RowKit
theorem evc_len (e:Ev):(evc e).length = 5:=rfl
theorem ins_stated (w:World):InsIn (w.heap.size + 2) ((w.alloc (.cells #[.int .i64 0,.int .i64 3] 79)).alloc (.cells #[.slice (some ⟨w.heap.size,0,none⟩) 1 1,.bool false,.slice none 0 0,.bool false,.slice none 0 0,.bool false,.slice none 0 0,.bool false,.slice none 0 0,.bool false] 55)) (some ⟨w.heap.size + 1,0,none⟩) lS:=fun _=>by
 refine ⟨w.heap.size + 1,0,rfl,by omega,fun j hj=>?_⟩
 have hk:j = 0 ∨ j = 1 ∨ j = 2 ∨ j = 3 ∨ j = 4:=by rw [lS_len] at hj;omega
 have e:w.heap.size + 1 = (w.alloc (.cells #[.int .i64 0,.int .i64 3] 79)).heap.size:=by simp
 rcases hk with rfl | rfl | rfl | rfl | rfl
 ·refine ⟨some ⟨w.heap.size,0,none⟩,1,cell_newb _ _ _ _ 0 _ e rfl,cell_newb _ _ _ _ 1 _ e rfl,fun _=>⟨w.heap.size,0,rfl,by omega,fun i hi=>?_⟩⟩
  have hi1:i < 1:=hi
  obtain rfl:i = 0:=by omega
  exact ⟨cell_bel (bel_alloc (Below.refl _ _) _) (cell_newb w _ _ _ 0 _ rfl rfl),cell_bel (bel_alloc (Below.refl _ _) _) (cell_newb w _ _ _ 1 _ rfl rfl)⟩
 ·exact ⟨none,0,cell_newb _ _ _ _ 2 _ e rfl,cell_newb _ _ _ _ 3 _ e rfl,fun h=>absurd h (Nat.lt_irrefl 0)⟩
 ·exact ⟨none,0,cell_newb _ _ _ _ 4 _ e rfl,cell_newb _ _ _ _ 5 _ e rfl,fun h=>absurd h (Nat.lt_irrefl 0)⟩
 ·exact ⟨none,0,cell_newb _ _ _ _ 6 _ e rfl,cell_newb _ _ _ _ 7 _ e rfl,fun h=>absurd h (Nat.lt_irrefl 0)⟩
 ·exact ⟨none,0,cell_newb _ _ _ _ 8 _ e rfl,cell_newb _ _ _ _ 9 _ e rfl,fun h=>absurd h (Nat.lt_irrefl 0)⟩
theorem awake_is (w:World):Calls Tryz.prog 7 #[] w fun e w'=>e = .returned (.bool true) ∧ Below w.heap.size w w':=by
 have hl108:=textL_len
 have HS:=Lib.hid (stated_is w)
 have HT:Hid (∀ w1 sb,TksIn w1.heap.size w1 (some ⟨sb,0,none⟩) 3 tkS → Calls Tryz.prog 23 #[.agg #[.int .i64 1,.slice (some ⟨sb,0,none⟩) 3 3]] w1 fun e w'=>(∃ b cp,e = .returned (.slice (some ⟨b,0,none⟩) textL.length cp) ∧ w1.heap.size ≤ b ∧ b < w'.heap.size ∧ BytesIn w' b 0 textL) ∧ Below w1.heap.size w1 w'):=fun w1 sb hx =>
  text_any w1.heap.size 1 _ 3 3 tkS TSs w1 hx (Nat.le_refl _) (by omega) (by omega) rtask_stated ts_size textL text_bd stated_text
 have HA:Hid (∀ w2 b cp,BytesIn w2 b 0 textL → Calls Tryz.prog 22 #[.slice (some ⟨b,0,none⟩) textL.length cp] w2 _):=fun w2 b cp hb=>anew_any b textL.length cp textL w2 rfl (by omega) (by omega) hb
 have HL:=Lib.hid hl108
 clear hl108
 go_enter Tryz.func7,Tryz.ntmps7
 go_wp2_with (first
  |(go_at_call 24;refine HS.out.mono ?_;rintro e w1 ⟨sb,rfl,hsb,hx1,hb1⟩;have HX1:=Lib.hid hx1;have HB1:=Lib.hid hb1;clear hx1 hb1 HS)
  |(go_at_call 23;refine (HT.out _ _ HX1.out).mono ?_;rintro e w2 ⟨⟨b,cp,rfl,hbb,hbl,hby⟩,hb2⟩;have HBY:=Lib.hid hby;have HB2:=Lib.hid (HB1.out.trans (hb2.mono HB1.out.size));clear hby hb2 HT)
  |(go_at_call 22;refine (HA.out _ _ _ HBY.out).mono ?_;rintro e w4 ⟨tb,tc,ab,w3,rfl,hw4,hab,htb1,htb2,htc,hby3,hb3⟩
    have hb4:Below w.heap.size w w3:=HB2.out.trans (hb3.mono HB2.out.size)
    have hbA:=bel_alloc (Below.refl w3.heap.size w3) (.cells (adm0 (.slice (some ⟨tb,0,none⟩) textL.length tc)) 132)
    have HB4:Hid (Below w.heap.size w w4):=by rw [hw4];exact hb4.trans (hbA.mono hb4.size)
    have HAB:Hid (AdB w4 ab ∧ w4.cell? ⟨ab,0,none⟩ = some (.slice (some ⟨tb,0,none⟩) textL.length tc) ∧ w4.cell? ⟨ab,1,none⟩ = some (.int .u32 0) ∧ w4.cell? ⟨ab,2,none⟩ = some (.int .i32 0) ∧ (∃ v:Int,w4.cell? ⟨ab,4,none⟩ = some (.int .i64 v)) ∧ BytesIn w4 tb 0 textL ∧ tb ≠ ab ∧ w.heap.size ≤ ab):=by
     subst hw4
     subst hab
     refine ⟨⟨fun j hj=>⟨_,cell_newb _ _ _ _ j _ rfl (List.getElem?_eq_getElem (by simpa [adm0] using hj))⟩,fun o=>by simp⟩,cell_newb _ _ _ _ 0 _ rfl rfl,cell_newb _ _ _ _ 1 _ rfl rfl,cell_newb _ _ _ _ 2 _ rfl rfl,⟨0,cell_newb _ _ _ _ 4 _ rfl rfl⟩,fun j hj=>cell_bel hbA (hby3 j hj),by omega,hb4.size⟩
    have HG:=Lib.hid (gap_first w4 ab tb tc HAB.out.1 HAB.out.2.1 HAB.out.2.2.1 HAB.out.2.2.2.1 HAB.out.2.2.2.2.1 HAB.out.2.2.2.2.2.1 htc HAB.out.2.2.2.2.2.2.1)
    clear hw4 hab hbA hb4 hby3 hb3)
  |(go_at_call 25;refine HG.out.mono ?_;rintro e w5 ⟨rfl,⟨b2,c2,hd⟩,f5⟩
    have HB5:=Lib.hid (HB4.out.trans (f5.below (fun q _ e=>by have:=HAB.out.2.2.2.2.2.2.2;omega) HB4.out.size))
    have hbI:=bel_alloc (bel_alloc (Below.refl w5.heap.size w5) (.cells #[.int .i64 0,.int .i64 3] 79)) (.cells #[.slice (some ⟨w5.heap.size,0,none⟩) 1 1,.bool false,.slice none 0 0,.bool false,.slice none 0 0,.bool false,.slice none 0 0,.bool false,.slice none 0 0,.bool false] 55)
    have HR:=Lib.hid (arun_is _ ab b2 c2 (w5.heap.size + 2) (some ⟨w5.heap.size + 1,0,none⟩) 5 (hd.below hbI) (ins_stated w5) (by simp))
    have HB6:=Lib.hid (HB5.out.trans (hbI.mono HB5.out.size))
    rw [lS_len] at HR
    clear hd f5 hbI)
  |(go_at_call 26;refine HR.out.mono ?_;rintro e w7 ⟨v,s',ev,rfl,ht,ho,hb7⟩
    have hw:=awake_ev (nm:=⟨#[97]⟩) rfl ht
    have hlen:ev.length = 4:=by have:=congrArg List.length hw;simpa using this
    obtain ⟨gv,cv,rfl,_,_,_,hv4,_⟩:=ownsRow_cells ho (by omega)
    have hx:∃ x,ev[3]? = some x ∧ x.what = 8:=by
     have h3:3 < ev.length:=by omega
     refine ⟨ev[3],List.getElem?_eq_getElem h3,?_⟩
     have:=congrArg (fun l=>l[3]?) hw
     simp only [List.getElem?_map,List.getElem?_eq_getElem h3] at this
     simpa using this
    obtain ⟨x,hx1,hx2⟩:=hx
    have q16:=hv4 16 (.int .i64 8) (by
     have h3:3 < ev.length:=by omega
     have:=flatMap_at evc 5 evc_len ev 3 1 h3 (by omega)
     rw [this]
     rw [List.getElem?_eq_getElem h3] at hx1
     cases hx1
     show some (Value.int .i64 (ev[3].what)) = _
     rw [hx2])
    rw [hlen]
    have HB7:=Lib.hid (HB6.out.trans (hb7.mono HB6.out.size))
    clear hv4 ho ht hw hx1 hx2 hlen hb7))
 go_ret
 exact ⟨rfl,HB7.out⟩
end
end Go.Proofs.YtnoahekcemfmcaaGreatDoor
