/- A part of the walk: Xt. -/
import Derived.Test.YtnoahekcemfmcaaGreatDoorR31
import Derived.Deep.CutRange
namespace Go.Proofs.YtnoahekcemfmcaaGreatDoor
set_option linter.unusedVariables false
set_option linter.unusedSimpArgs false
set_option maxHeartbeats 80000000
set_option maxRecDepth 100000
section
open Go.RowKit
theorem one_of {v u:Value} {j:Nat} (h:[v][j]? = some u):j = 0 ∧ u = v:=by
 cases j with
 | zero=>simp at h;exact ⟨rfl,h.symm⟩
 | succ j=>simp at h
theorem xnew_even (B:Nat) (bu:Int) (a:Option Addr) (n c:Nat) (tk:Nat → Tk) (w:World) (h:SetOk bu n tk) (hx:TksIn B w a n tk) (hB:B ≤ w.heap.size) (hnc:n ≤ c) (kd:Int) (hkd:kd = 1 ∨ kd = 2) :
  Calls Tryz.prog 16 #[.agg #[.int .i64 bu,.slice a n c],.int .i64 kd] w fun e w'=>∃ A col F jbk gs,e = .returned (.tuple #[.pointer (some ⟨A.x,0,none⟩),.int .i64 0]) ∧
   XW w.heap.size A bu n tk w' (St0 tk) [] 0 col F [] (.slice none 0 0) jbk gs (St0 tk).job ∧ Below w.heap.size w w' ∧ ∀ k,k < w.heap.size → col k = 0:=by
 have hb0:=bel_alloc (Below.refl w.heap.size w) (.cells #[.int .i64 bu,.slice a n c] 24)
 have hbox0:=cell_newb w #[.int .i64 bu,.slice a n c] 24 _ 0 _ rfl rfl
 have hbox1:=cell_newb w #[.int .i64 bu,.slice a n c] 24 _ 1 _ rfl rfl
 have hsz:=one_lt w (.cells #[.int .i64 bu,.slice a n c] 24)
 have hx1:=hx.keep (hb0.mono hB)
 have HR:=Lib.hid (right_ok B bu a n c tk (w.alloc (.cells #[.int .i64 bu,.slice a n c] 24)) h hx1 (Nat.le_trans hB hb0.size) hnc)
 have HP:=Lib.hid (fun w=>right_even kd hkd 1 1 w (by omega) (by omega) (by omega))
 have HX0:=Lib.hid hx
 have HB0:=Lib.hid hb0
 have HS:=Lib.hid h
 have hn0:0 < n:=h.n1
 have hn16:n ≤ 16:=h.n2
 have hnI:(n:Int) ≤ 16:=by omega
 clear hx hx1 h hb0
 go_enter Tryz.func16,Tryz.ntmps16
 go_wp2_with (first | (go_at_call 28;refine HR.out.mono ?_;rintro e w2 ⟨rfl,hb2⟩;have HB2:=Lib.hid (HB0.out.trans (hb2.mono HB0.out.size));have hbx0:=cell_bel hb2 hbox0;have hbx1:=cell_bel hb2 hbox1;have hsz2:w.heap.size < w2.heap.size:=Nat.lt_of_lt_of_le hsz hb2.size;clear hb2 HR hbox0 hbox1 hsz HB0) | (go_at_call 33;refine (HP.out _).mono ?_;rintro e w3 ⟨rfl,rfl⟩))
 obtain ⟨i4,ki4,kz4,kz5,kz6⟩:=info_parts Tryz.info104
 go_cut [6] (fun s6 wx=>∃ x tb tc jb jc col,s6 = .pointer (some ⟨x,0,none⟩) ∧ Hid (NewL w n 0 tk bu a c x tb tc jb jc (.slice none 0 0) (.slice none 0 0) col (fun _=>0) (fun _=>0) (fun _=>0) (fun _=>0) wx))
 case first =>
  have HQ:Hid (∀ w',Below w3.heap.size w3 w' → w'.cell? ⟨w.heap.size,0,none⟩ = some (.int .i64 bu) ∧ w'.cell? ⟨w.heap.size,1,none⟩ = some (.slice a n c) ∧ Below w3.heap.size w3 w'):=fun w' hb=>⟨cell_bel hb hbx0,cell_bel hb hbx1,hb⟩
  clear hbx0 hbx1
  refine wp_region_held_drew (S:=(fun w'=>w'.cell? ⟨w.heap.size,0,none⟩ = some (.int .i64 bu) ∧ w'.cell? ⟨w.heap.size,1,none⟩ = some (.slice a n c) ∧ Below w3.heap.size w3 w')) (by kernel_rfl) ?hS0n (fun hHeld=>?_)
  case hS0n=>(try dsimp only);exact HQ.out _ ⟨rfl,rfl,rfl,Nat.le_refl _,fun _ _=>rfl⟩
  refine wtk (i:=0) ?_
  try simp only [Act.put,List.setIfInBounds_toArray,List.set]
  refine wtk (i:=2) ?_
  try simp only [Act.put,List.setIfInBounds_toArray,List.set]
  refine wtk (i:=3) ?_
  try simp only [Act.put,List.setIfInBounds_toArray,List.set]
  refine wtk (i:=4) ?_
  try simp only [Act.put,List.setIfInBounds_toArray,List.set]
  refine wpAnyH_ready (rs:=[1,5]) (by kernel_rfl) (by simp) ?_
  refine arc (fun K hK=>?_) ?_
  ·skip
   go_simp
   go_at_call 34
   refine (copy_ok B bu a n c tk _ (HX0.out.keep ((HB2.out.trans (hHeld.2.2.mono HB2.out.size)).mono hB)) (by have:=HB2.out.size;have:=hHeld.2.2.size;omega) hn0 hn16).mono ?_
   rintro e w5 ⟨b5,c5,rfl,hown5,hb5⟩
   have hh5:=hHeld.2.2.trans (hb5.mono hHeld.2.2.size)
   have hlo5:=Nat.lt_of_lt_of_le hsz2 hHeld.2.2.size
   refine hK.out _ _ ?hSn5 (fun hHeld2=>?hrn5)
   case hSn5=>(try dsimp only);exact HQ.out _ hh5
   clear hK K hHeld
   have hHeld:=hHeld2
   clear hHeld2
   try simp only [Act.put,List.setIfInBounds_toArray,List.set]
   refine wpAnyH_ready (rs:=[5]) (by kernel_rfl) (by simp) ?_
   refine arc (fun K hK=>?_) AllReadyH.nil
   refine step_make_full _ rfl _ _ 87 rfl (w.heap.size + 1) 104 i4 (.pointer none) 1 Tryz.underlying87 ki4 kz4 kz5 n rfl rfl (by rw [kz6];omega) (by unfold maxLen;omega) (by have:=hHeld.2.2.size;omega) ?_
   rw [made_nil]
   intro w6 hown6 hgr6
   have hb6:=Below.grown (Below.refl _ _) hgr6 (Nat.le_refl _) (fun k e=>by cases e)
   have hh6:=hHeld.2.2.trans (hb6.mono hHeld.2.2.size)
   refine hK.out _ _ ?hSn6 (fun hHeld2=>?hrn6)
   case hSn6=>(try dsimp only);exact HQ.out _ hh6
   clear hK K hHeld
   have hHeld:=hHeld2
   clear hHeld2
   try simp only [Act.put,List.setIfInBounds_toArray,List.set]
   have hh7:=hh6
   have HNew:=Lib.hid (NewL.start (tk:=tk) (HB2.out.trans (hh6.mono HB2.out.size)) (Nat.lt_of_lt_of_le hsz2 hh6.size) hHeld.1 hHeld.2.1 (own_base (own_fr2 hown5 (Fr.of_below (S:=fun _=>False) hb6) (fun _ _ h=>h)) (by omega)) hown6 (by have:=hown5.lt b5 rfl;omega))
   refine wtk (i:=6) ?_
   try simp only [Act.put,List.setIfInBounds_toArray,List.set]
   refine wpAnyH_ready (rs:=[7]) (by kernel_rfl) (by simp) ?_
   refine arc (fun K hK=>?_) AllReadyH.nil
   go_simp
   refine hK.out _ _ ?hSn8 (fun hHeld2=>?hrn8)
   case hSn8=>(try dsimp only);exact HQ.out _ (hh7.trans ((bel_alloc (Below.refl _ _) _).mono hh7.size))
   clear hK K hHeld
   have hHeld:=hHeld2
   clear hHeld2
   try simp only [Act.put,List.setIfInBounds_toArray,List.set]
   refine wtk (i:=8) ?_
   try simp only [Act.put,List.setIfInBounds_toArray,List.set]
   refine wpAnyH_done (by kernel_rfl) ?_ _
   go_wp2_with fail
   go_meet
   case rel =>
    obtain ⟨col,hNew⟩:=HNew.out
    exact ⟨_,_,_,_,_,col,rfl,hNew⟩
  refine arc (fun K hK=>?_) ?_
  ·skip
   refine step_make_full _ rfl _ _ 87 rfl (w.heap.size + 1) 104 i4 (.pointer none) 1 Tryz.underlying87 ki4 kz4 kz5 n rfl rfl (by rw [kz6];omega) (by unfold maxLen;omega) (by have:=hHeld.2.2.size;omega) ?_
   rw [made_nil]
   intro w6 hown6 hgr6
   have hb6:=Below.grown (Below.refl _ _) hgr6 (Nat.le_refl _) (fun k e=>by cases e)
   have hh6:=hHeld.2.2.trans (hb6.mono hHeld.2.2.size)
   refine hK.out _ _ ?hSn10 (fun hHeld2=>?hrn10)
   case hSn10=>(try dsimp only);exact HQ.out _ hh6
   clear hK K hHeld
   have hHeld:=hHeld2
   clear hHeld2
   try simp only [Act.put,List.setIfInBounds_toArray,List.set]
   refine wpAnyH_ready (rs:=[1]) (by kernel_rfl) (by simp) ?_
   refine arc (fun K hK=>?_) AllReadyH.nil
   go_simp
   go_at_call 34
   refine (copy_ok B bu a n c tk _ (HX0.out.keep ((HB2.out.trans (hHeld.2.2.mono HB2.out.size)).mono hB)) (by have:=HB2.out.size;have:=hHeld.2.2.size;omega) hn0 hn16).mono ?_
   rintro e w5 ⟨b5,c5,rfl,hown5,hb5⟩
   have hh5:=hHeld.2.2.trans (hb5.mono hHeld.2.2.size)
   have hlo5:=Nat.lt_of_lt_of_le hsz2 hHeld.2.2.size
   refine hK.out _ _ ?hSn11 (fun hHeld2=>?hrn11)
   case hSn11=>(try dsimp only);exact HQ.out _ hh5
   clear hK K hHeld
   have hHeld:=hHeld2
   clear hHeld2
   try simp only [Act.put,List.setIfInBounds_toArray,List.set]
   have hh7:=hh5
   have HNew:=Lib.hid (NewL.start (tk:=tk) (HB2.out.trans (hh5.mono HB2.out.size)) (Nat.lt_of_lt_of_le hsz2 hh5.size) hHeld.1 hHeld.2.1 (own_base hown5 (by omega)) (own_fr2 hown6 (Fr.of_below (S:=fun _=>False) hb5) (fun _ _ h=>h)) (fun e=>by have h1:=ownsRow_block hown5 b5 rfl;have h2:=(hown6.lt _ rfl).2;rw [e] at h1;exact absurd h1 (Nat.not_le.2 h2)))
   refine wtk (i:=6) ?_
   try simp only [Act.put,List.setIfInBounds_toArray,List.set]
   refine wpAnyH_ready (rs:=[7]) (by kernel_rfl) (by simp) ?_
   refine arc (fun K hK=>?_) AllReadyH.nil
   go_simp
   refine hK.out _ _ ?hSn13 (fun hHeld2=>?hrn13)
   case hSn13=>(try dsimp only);exact HQ.out _ (hh7.trans ((bel_alloc (Below.refl _ _) _).mono hh7.size))
   clear hK K hHeld
   have hHeld:=hHeld2
   clear hHeld2
   try simp only [Act.put,List.setIfInBounds_toArray,List.set]
   refine wtk (i:=8) ?_
   try simp only [Act.put,List.setIfInBounds_toArray,List.set]
   refine wpAnyH_done (by kernel_rfl) ?_ _
   go_wp2_with fail
   go_meet
   case rel =>
    obtain ⟨col,hNew⟩:=HNew.out
    exact ⟨_,_,_,_,_,col,rfl,hNew⟩
  exact AllReadyH.nil
 case rest =>
  obtain ⟨x,tb,tc,jb,jc,col0,rfl,HN0⟩:=hcut
  have hb1:=HN0.out.b1
  have hwl:=HN0.out.sz0
  clear hbx0 hbx1 HB2
  obtain ⟨i3,ki3,kz31,kz32,kz33⟩:=info_parts Tryz.info3
  obtain ⟨i9,ki9,kz91,kz92,kz93⟩:=info_parts Tryz.info94
  go_wp2_with fail
  go_loopw [32,7,9,10,11] (fun ix s7 s9 s10 s11 wx=>∃ k:Nat,k ≤ n ∧ ix = .int .i64 k ∧ Hid (∃ sv col sk sz sp sq,NewL w n k tk bu a c x tb tc jb jc s7 sv col sk sz sp sq wx)) (fun ix _ _ _ _ _=>n - (intOf ix).toNat)
  case atStart=>exact ⟨0,Nat.zero_le _,rfl,⟨_,_,_,_,_,_,HN0.out⟩⟩
  case round =>
   obtain ⟨k,hk,rfl,HX⟩:=hrel
   obtain ⟨sv,col,sk,sz,sp,sq,HN⟩:=HX.out
   have HNk:=Lib.hid HN
   clear HN HX
   by_cases hlt:k < n
   ·have hkI:(k:Int) < (n:Int):=by omega
    have hk0:(0:Int) ≤ (k:Int):=by omega
    have hdl:decide ((k:Int) < (n:Int)) = true:=decide_eq_true hkI
    have hxr:=HX0.out.keep (HNk.out.bel.mono hB)
    obtain ⟨b,off,rfl,hbB,hcc⟩:=hxr (by omega)
    have hq:=hcc k (by omega)
    have ht:=HS.out.ok k hlt
    obtain ⟨m,hm⟩:∃ m:Nat,(tk k).M.toNat = m:=⟨_,rfl⟩
    obtain ⟨K,hK⟩:∃ K:Nat,(tk k).K.toNat = K:=⟨_,rfl⟩
    have hM2:(tk k).M = (m:Int):=by have:=ht.f1;omega
    have hK2:(tk k).K = (K:Int):=by have:=ht.f1;have:=ht.f2;omega
    have HSN:=Lib.hid (fun W=>snew_even kd hkd m K W (by have:=ht.f1;omega) (by have:=ht.f2;omega) (by have:=ht.f3;omega))
    have hth:=th_new wr #[.string ⟨#[]⟩,.int .i64 0,.int .i64 0,.int .i64 0,.int .i64 0,.int .i64 0,.int .i64 0,.int .i64 0,.int .i64 0,.int .i64 0,.int .i64 0] 41 wr.heap.size 11 rfl (by simp)
    have hrg:((wr.alloc (.cells #[.string ⟨#[]⟩,.int .i64 0,.int .i64 0,.int .i64 0,.int .i64 0,.int .i64 0,.int .i64 0,.int .i64 0,.int .i64 0,.int .i64 0,.int .i64 0] 41)).setCells wr.heap.size 0 (tkc (tk k))).rangeAt wr.heap.size 0 (tkc (tk k)):=World.rangeAt_setCells_same _ _ _ (tkc (tk k)) hth
    have hbt:Below wr.heap.size wr ((wr.alloc (.cells #[.string ⟨#[]⟩,.int .i64 0,.int .i64 0,.int .i64 0,.int .i64 0,.int .i64 0,.int .i64 0,.int .i64 0,.int .i64 0,.int .i64 0,.int .i64 0] 41)).setCells wr.heap.size 0 (tkc (tk k))):=below_setCells (Nat.le_refl _) _ _ _ (bel_alloc (Below.refl _ _) _)
    have hszt:wr.heap.size < ((wr.alloc (.cells #[.string ⟨#[]⟩,.int .i64 0,.int .i64 0,.int .i64 0,.int .i64 0,.int .i64 0,.int .i64 0,.int .i64 0,.int .i64 0,.int .i64 0,.int .i64 0] 41)).setCells wr.heap.size 0 (tkc (tk k))).heap.size:=by rw [size_setCells];simp
    have hT7:=hrg 7 _ rfl
    have hT8:=hrg 8 _ rfl
    have hT1:=hrg 1 _ rfl
    simp only [Nat.zero_add] at hT7 hT8 hT1
    rw [hM2] at hT7
    rw [hK2] at hT8
    clear hxr hcc ht hrg
    go_wp2_with (first | (refine wpList_load_mid rfl 41 _ rfl b (off + k * 11) rfl (tkc (tk k)) _ hq Tryz.underlying41 rfl Tryz.size41 ?_) | (refine wpList_store_mid rfl 41 _ _ rfl wr.heap.size 0 (tkc (tk k)).toArray rfl rfl hth Tryz.size41 (by simp [Value.oneCell',tkc]) ?_;try simp only [List.toList_toArray];generalize ((wr.alloc (.cells #[.string ⟨#[]⟩,.int .i64 0,.int .i64 0,.int .i64 0,.int .i64 0,.int .i64 0,.int .i64 0,.int .i64 0,.int .i64 0,.int .i64 0,.int .i64 0] 41)).setCells wr.heap.size 0 (tkc (tk k))) = wt at hbt hszt hT7 hT8 hT1 ⊢;clear hq hth) | (go_at_call 35;refine (HSN.out _).mono ?_;rintro e w4 ⟨⟨zs,zz,zp,zq,cf,rfl,hsk,hrl,hn1,hn2,hn3,hn4⟩,hb4⟩;have hT1w:=cell_bel hb4 hT1;have hbw4:=hbt.trans (hb4.mono hbt.size);have hszw:wr.heap.size < w4.heap.size:=Nat.lt_of_lt_of_le hszt hb4.size;have HSK:=Lib.hid hsk;have HRL:=Lib.hid hrl;clear HSN hT7 hT8 hT1 hb4 hsk hrl))
    have HN4:=Lib.hid (HNk.out.keep (T:=fun _=>False) (Fr.of_below hbw4) (fun _ t=>t.elim))
    have h4s:w.heap.size ≤ w4.heap.size:=Nat.le_of_lt HN4.out.sz0
    have h4c:col wr.heap.size = 0:=by
     by_cases e:col wr.heap.size = 0
     ·exact e
     ·have:=(HNk.out.lt _ e).2;omega
    have HQ:Hid (∀ w',Fr (fun q=>u7.ownBlock = some q ∨ sv.ownBlock = some q ∨ q = x) w4 w' → w'.cell? ⟨wr.heap.size,1,none⟩ = some (.int .i64 (tk k).T)):=fun w' hf =>
     (hf.cell (p:=⟨wr.heap.size,1,none⟩) hszw (fun (t:u7.ownBlock = some wr.heap.size ∨ sv.ownBlock = some wr.heap.size ∨ wr.heap.size = x)=>by
      rcases t with t | t | t
      ·have:=HNk.out.ca _ t;omega
      ·have:=HNk.out.cv _ t;omega
      ·have:=HNk.out.cx;rw [← t] at this;omega)).trans hT1w
    have hF:=(Fr.refl (fun _=>False) w4).drew
    refine wp_region_held_drew (S:=(fun w'=>w'.cell? ⟨wr.heap.size,1,none⟩ = some (.int .i64 (tk k).T))) (by kernel_rfl) ?hS0e (fun hHeld=>?_)
    case hS0e=>(try dsimp only);exact HQ.out _ (hF.mono (fun _ _ t=>t.elim))
    refine wtk (i:=0) ?_
    try simp only [Act.put,List.setIfInBounds_toArray,List.set]
    refine wtk (i:=1) ?_
    try simp only [Act.put,List.setIfInBounds_toArray,List.set]
    refine wtk (i:=2) ?_
    try simp only [Act.put,List.setIfInBounds_toArray,List.set]
    refine wtk (i:=3) ?_
    try simp only [Act.put,List.setIfInBounds_toArray,List.set]
    refine wtk (i:=6) ?_
    try simp only [Act.put,List.setIfInBounds_toArray,List.set]
    refine wtk (i:=7) ?_
    try simp only [Act.put,List.setIfInBounds_toArray,List.set]
    refine wtk (i:=8) ?_
    try simp only [Act.put,List.setIfInBounds_toArray,List.set]
    refine wtk (i:=10) ?_
    try simp only [Act.put,List.setIfInBounds_toArray,List.set]
    refine wpAnyH_ready (rs:=[4,9,11]) (by kernel_rfl) (by simp) ?_
    refine arc (fun K hK=>?_) ?_
    ·skip
     go_simp
     have hF4:=hF.alloc (.cells #[.int .i64 (tk k).T] 3)
     have hA4:(w4.drew.alloc (.cells #[.int .i64 (tk k).T] 3)).cell? ⟨w4.heap.size,0,none⟩ = some (.int .i64 (tk k).T):=cell_newb _ _ _ _ 0 _ (by first | rfl | simp) rfl
     refine hK.out _ _ ?hSe9 (fun hHeld2=>?hre9)
     case hSe9=>(try dsimp only);exact HQ.out _ (hF4.mono (fun _ _ t=>t.elim))
     clear hK K hHeld
     have hHeld:=hHeld2
     clear hHeld2
     try simp only [Act.put,List.setIfInBounds_toArray,List.set]
     refine wpAnyH_ready (rs:=[5,9,11]) (by kernel_rfl) (by simp) ?_
     refine arc (fun K hK=>?_) ?_
     ·skip
      refine step_append_lies _ (by rfl) _ _ _ (by rfl) w.heap.size 3 i3 _ 1 8 Tryz.underlying28 ki3 kz31 kz32 kz33 rfl (by omega) _ _ _ (by rfl) (own_fr2 HN4.out.ap hF4 (fun _ _ t=>t)) ⟨w4.heap.size,0,none⟩ 1 1 [.int .i64 (tk k).T] (by rfl) (by rfl) (fun j u hu=>by obtain ⟨rfl,rfl⟩:=one_of hu;rw [add_none];exact hA4) (by simp [Value.oneCell']) (by omega) (by unfold maxLen;omega) (by omega) (Nat.le_trans h4s hF4.size) _ rfl ?_
      intro gA cA wA hownA hgrA hatA hltA
      have hF45:Fr (fun q=>u7.ownBlock = some q) w4 wA:=Fr.grown (hF4.mono (fun _ _ t=>t.elim)) hgrA (fun g e _=>e)
      have hC45:=Fr.refl (fun _=>False) wA
      have hgA4:u7.ownBlock = some gA ∨ w4.heap.size ≤ gA:=hatA.imp id (fun e=>by rw [e];exact hF4.size)
      have hwA4:w4.heap.size ≤ wA.heap.size:=hF45.size
      refine hK.out _ _ ?hSe10 (fun hHeld2=>?hre10)
      case hSe10=>(try dsimp only);exact HQ.out _ (hF45.mono (fun _ _ t=>.inl t))
      clear hK K hHeld
      have hHeld:=hHeld2
      clear hHeld2
      try simp only [Act.put,List.setIfInBounds_toArray,List.set]
      refine wpAnyH_ready (rs:=[9,11]) (by kernel_rfl) (by simp) ?_
      refine arc (fun K hK=>?_) ?_
      ·skip
       obtain ⟨hx7,hz7,hxl⟩:=HN4.out.pre (hF45.mono (fun _ _ t=>.inl t))
       go_simp
       clear hx7 hz7 hxl
       refine hK.out _ _ ?hSe11 (fun hHeld2=>?hre11)
       case hSe11=>(try dsimp only);exact HQ.out _ (hF45.mono (fun _ _ t=>.inl t))
       clear hK K hHeld
       have hHeld:=hHeld2
       clear hHeld2
       try simp only [Act.put,List.setIfInBounds_toArray,List.set]
       refine wpAnyH_ready (rs:=[11]) (by kernel_rfl) (by simp) ?_
       refine arc (fun K hK=>?_) AllReadyH.nil
       go_simp
       have hF45911:=hF45.alloc (.cells #[.pointer (some ⟨zs,0,none⟩)] 94)
       have hB45911:(wA.alloc (.cells #[.pointer (some ⟨zs,0,none⟩)] 94)).cell? ⟨wA.heap.size,0,none⟩ = some (.pointer (some ⟨zs,0,none⟩)):=cell_newb _ _ _ _ 0 _ (by first | rfl | simp) rfl
       have hbBl:w4.heap.size ≤ wA.heap.size:=by first | omega | exact hwA4
       have hC45911:=hC45.alloc (.cells #[.pointer (some ⟨zs,0,none⟩)] 94)
       refine hK.out _ _ ?hSe12 (fun hHeld2=>?hre12)
       case hSe12=>(try dsimp only);exact HQ.out _ (hF45911.mono (fun _ _ t=>.inl t))
       clear hK K hHeld
       have hHeld:=hHeld2
       clear hHeld2
       try simp only [Act.put,List.setIfInBounds_toArray,List.set]
       refine wpAnyH_ready (rs:=[12]) (by kernel_rfl) (by simp) ?_
       refine arc (fun K hK=>?_) AllReadyH.nil
       refine step_append_lies _ (by rfl) _ _ _ (by rfl) w.heap.size 94 i9 _ 1 8 Tryz.underlying90 ki9 kz91 kz92 kz93 rfl (by omega) _ _ _ (by rfl) (own_fr2 HN4.out.sr hF45911 HN4.out.apart) ⟨wA.heap.size,0,none⟩ 1 1 [.pointer (some ⟨zs,0,none⟩)] (by rfl) (by rfl) (fun j u hu=>by obtain ⟨rfl,rfl⟩:=one_of hu;rw [add_none];exact hB45911) (by simp [Value.oneCell']) (by omega) (by unfold maxLen;omega) (by omega) (Nat.le_trans h4s hF45911.size) _ rfl ?_
       intro gB cB wB hownB hgrB hatB hltB
       have hF4591112:Fr (fun q=>u7.ownBlock = some q ∨ sv.ownBlock = some q) w4 wB:=Fr.grown (hF45911.mono (fun _ _ t=>.inl t)) hgrB (fun g e _=>.inr e)
       have hAB:Fr (fun q=>sv.ownBlock = some q) wA wB:=Fr.grown (hC45911.mono (fun _ _ t=>t.elim)) hgrB (fun g e _=>e)
       have hgB4:sv.ownBlock = some gB ∨ wA.heap.size ≤ gB:=hatB.imp id (fun e=>by rw [e];exact hC45911.size)
       refine hK.out _ _ ?hSe13 (fun hHeld2=>?hre13)
       case hSe13=>(try dsimp only);exact HQ.out _ (hF4591112.mono (fun _ _ t=>t.imp id Or.inl))
       clear hK K hHeld
       have hHeld:=hHeld2
       clear hHeld2
       try simp only [Act.put,List.setIfInBounds_toArray,List.set]
       refine wtk (i:=13) ?_
       try simp only [Act.put,List.setIfInBounds_toArray,List.set]
       refine wtk (i:=14) ?_
       try simp only [Act.put,List.setIfInBounds_toArray,List.set]
       refine wtk (i:=15) ?_
       try simp only [Act.put,List.setIfInBounds_toArray,List.set]
       obtain ⟨hx7,hz7,hxl⟩:=HN4.out.pre hF4591112
       refine wpAnyH_ready (rs:=[16]) (by kernel_rfl) (by simp) ?_
       refine arc (fun K hK=>?_) AllReadyH.nil
       go_simp
       refine hK.out _ _ ?hSe17 (fun hHeld2=>?hre17)
       case hSe17=>(try dsimp only);exact HQ.out _ ((hF4591112.mono (T:=fun q=>u7.ownBlock = some q ∨ sv.ownBlock = some q ∨ q = x) (fun _ _ t=>t.imp id Or.inl)).setCell (p:=⟨x,7,none⟩) (.inr (.inr rfl)) _)
       clear hK K hHeld
       have hHeld:=hHeld2
       clear hHeld2
       try simp only [Act.put,List.setIfInBounds_toArray,List.set]
       refine wpAnyH_done (by kernel_rfl) ?_ _
       have HFIN:=Lib.hid (HNk.out.post hbw4 (by rw [hK,hm];exact HSK.out) (by rw [hK];exact HRL.out) ⟨Nat.le_trans (Nat.le_of_lt hszt) hn1,Nat.le_trans (Nat.le_of_lt hszt) hn2,Nat.le_trans (Nat.le_of_lt hszt) hn3,Nat.le_trans (Nat.le_of_lt hszt) hn4⟩ ⟨HSK.out.slt,HSK.out.wn.zlt,HSK.out.wn.rb.plt,HSK.out.wn.rb.qlt⟩ hF4591112 hownA hAB hownB hgA4 hgB4 hwA4)
       clear hHeld
       go_wp2_with fail
       go_roundw
       case rel=>exact ⟨k + 1,by omega,by simp,HFIN⟩
       case measure=>simp [intOf];omega
      refine arc (fun K hK=>?_) ?_
      ·skip
       go_simp
       have hF4511:=hF45.alloc (.cells #[.pointer (some ⟨zs,0,none⟩)] 94)
       have hB4511:(wA.alloc (.cells #[.pointer (some ⟨zs,0,none⟩)] 94)).cell? ⟨wA.heap.size,0,none⟩ = some (.pointer (some ⟨zs,0,none⟩)):=cell_newb _ _ _ _ 0 _ (by first | rfl | simp) rfl
       have hbBl:w4.heap.size ≤ wA.heap.size:=by first | omega | exact hwA4
       have hC4511:=hC45.alloc (.cells #[.pointer (some ⟨zs,0,none⟩)] 94)
       refine hK.out _ _ ?hSe18 (fun hHeld2=>?hre18)
       case hSe18=>(try dsimp only);exact HQ.out _ (hF4511.mono (fun _ _ t=>.inl t))
       clear hK K hHeld
       have hHeld:=hHeld2
       clear hHeld2
       try simp only [Act.put,List.setIfInBounds_toArray,List.set]
       refine wpAnyH_ready (rs:=[9]) (by kernel_rfl) (by simp) ?_
       refine arc (fun K hK=>?_) AllReadyH.nil
       obtain ⟨hx7,hz7,hxl⟩:=HN4.out.pre (hF45.mono (fun _ _ t=>.inl t))
       go_simp
       clear hx7 hz7 hxl
       refine hK.out _ _ ?hSe19 (fun hHeld2=>?hre19)
       case hSe19=>(try dsimp only);exact HQ.out _ (hF4511.mono (fun _ _ t=>.inl t))
       clear hK K hHeld
       have hHeld:=hHeld2
       clear hHeld2
       try simp only [Act.put,List.setIfInBounds_toArray,List.set]
       refine wpAnyH_ready (rs:=[12]) (by kernel_rfl) (by simp) ?_
       refine arc (fun K hK=>?_) AllReadyH.nil
       refine step_append_lies _ (by rfl) _ _ _ (by rfl) w.heap.size 94 i9 _ 1 8 Tryz.underlying90 ki9 kz91 kz92 kz93 rfl (by omega) _ _ _ (by rfl) (own_fr2 HN4.out.sr hF4511 HN4.out.apart) ⟨wA.heap.size,0,none⟩ 1 1 [.pointer (some ⟨zs,0,none⟩)] (by rfl) (by rfl) (fun j u hu=>by obtain ⟨rfl,rfl⟩:=one_of hu;rw [add_none];exact hB4511) (by simp [Value.oneCell']) (by omega) (by unfold maxLen;omega) (by omega) (Nat.le_trans h4s hF4511.size) _ rfl ?_
       intro gB cB wB hownB hgrB hatB hltB
       have hF4591112:Fr (fun q=>u7.ownBlock = some q ∨ sv.ownBlock = some q) w4 wB:=Fr.grown (hF4511.mono (fun _ _ t=>.inl t)) hgrB (fun g e _=>.inr e)
       have hAB:Fr (fun q=>sv.ownBlock = some q) wA wB:=Fr.grown (hC4511.mono (fun _ _ t=>t.elim)) hgrB (fun g e _=>e)
       have hgB4:sv.ownBlock = some gB ∨ wA.heap.size ≤ gB:=hatB.imp id (fun e=>by rw [e];exact hC4511.size)
       refine hK.out _ _ ?hSe20 (fun hHeld2=>?hre20)
       case hSe20=>(try dsimp only);exact HQ.out _ (hF4591112.mono (fun _ _ t=>t.imp id Or.inl))
       clear hK K hHeld
       have hHeld:=hHeld2
       clear hHeld2
       try simp only [Act.put,List.setIfInBounds_toArray,List.set]
       refine wtk (i:=13) ?_
       try simp only [Act.put,List.setIfInBounds_toArray,List.set]
       refine wtk (i:=14) ?_
       try simp only [Act.put,List.setIfInBounds_toArray,List.set]
       refine wtk (i:=15) ?_
       try simp only [Act.put,List.setIfInBounds_toArray,List.set]
       obtain ⟨hx7,hz7,hxl⟩:=HN4.out.pre hF4591112
       refine wpAnyH_ready (rs:=[16]) (by kernel_rfl) (by simp) ?_
       refine arc (fun K hK=>?_) AllReadyH.nil
       go_simp
       refine hK.out _ _ ?hSe24 (fun hHeld2=>?hre24)
       case hSe24=>(try dsimp only);exact HQ.out _ ((hF4591112.mono (T:=fun q=>u7.ownBlock = some q ∨ sv.ownBlock = some q ∨ q = x) (fun _ _ t=>t.imp id Or.inl)).setCell (p:=⟨x,7,none⟩) (.inr (.inr rfl)) _)
       clear hK K hHeld
       have hHeld:=hHeld2
       clear hHeld2
       try simp only [Act.put,List.setIfInBounds_toArray,List.set]
       refine wpAnyH_done (by kernel_rfl) ?_ _
       have HFIN:=Lib.hid (HNk.out.post hbw4 (by rw [hK,hm];exact HSK.out) (by rw [hK];exact HRL.out) ⟨Nat.le_trans (Nat.le_of_lt hszt) hn1,Nat.le_trans (Nat.le_of_lt hszt) hn2,Nat.le_trans (Nat.le_of_lt hszt) hn3,Nat.le_trans (Nat.le_of_lt hszt) hn4⟩ ⟨HSK.out.slt,HSK.out.wn.zlt,HSK.out.wn.rb.plt,HSK.out.wn.rb.qlt⟩ hF4591112 hownA hAB hownB hgA4 hgB4 hwA4)
       clear hHeld
       go_wp2_with fail
       go_roundw
       case rel=>exact ⟨k + 1,by omega,by simp,HFIN⟩
       case measure=>simp [intOf];omega
      exact AllReadyH.nil
     refine arc (fun K hK=>?_) ?_
     ·skip
      obtain ⟨hx7,hz7,hxl⟩:=HN4.out.pre ((Fr.refl (fun _=>False) w4).mono (fun _ _ t=>t.elim))
      go_simp
      clear hx7 hz7 hxl
      refine hK.out _ _ ?hSe25 (fun hHeld2=>?hre25)
      case hSe25=>(try dsimp only);exact HQ.out _ (hF4.mono (fun _ _ t=>t.elim))
      clear hK K hHeld
      have hHeld:=hHeld2
      clear hHeld2
      try simp only [Act.put,List.setIfInBounds_toArray,List.set]
      refine wpAnyH_ready (rs:=[5,11]) (by kernel_rfl) (by simp) ?_
      refine arc (fun K hK=>?_) ?_
      ·skip
       refine step_append_lies _ (by rfl) _ _ _ (by rfl) w.heap.size 3 i3 _ 1 8 Tryz.underlying28 ki3 kz31 kz32 kz33 rfl (by omega) _ _ _ (by rfl) (own_fr2 HN4.out.ap hF4 (fun _ _ t=>t)) ⟨w4.heap.size,0,none⟩ 1 1 [.int .i64 (tk k).T] (by rfl) (by rfl) (fun j u hu=>by obtain ⟨rfl,rfl⟩:=one_of hu;rw [add_none];exact hA4) (by simp [Value.oneCell']) (by omega) (by unfold maxLen;omega) (by omega) (Nat.le_trans h4s hF4.size) _ rfl ?_
       intro gA cA wA hownA hgrA hatA hltA
       have hF459:Fr (fun q=>u7.ownBlock = some q) w4 wA:=Fr.grown (hF4.mono (fun _ _ t=>t.elim)) hgrA (fun g e _=>e)
       have hC459:=Fr.refl (fun _=>False) wA
       have hgA4:u7.ownBlock = some gA ∨ w4.heap.size ≤ gA:=hatA.imp id (fun e=>by rw [e];exact hF4.size)
       have hwA4:w4.heap.size ≤ wA.heap.size:=hF459.size
       refine hK.out _ _ ?hSe26 (fun hHeld2=>?hre26)
       case hSe26=>(try dsimp only);exact HQ.out _ (hF459.mono (fun _ _ t=>.inl t))
       clear hK K hHeld
       have hHeld:=hHeld2
       clear hHeld2
       try simp only [Act.put,List.setIfInBounds_toArray,List.set]
       refine wpAnyH_ready (rs:=[11]) (by kernel_rfl) (by simp) ?_
       refine arc (fun K hK=>?_) AllReadyH.nil
       go_simp
       have hF45911:=hF459.alloc (.cells #[.pointer (some ⟨zs,0,none⟩)] 94)
       have hB45911:(wA.alloc (.cells #[.pointer (some ⟨zs,0,none⟩)] 94)).cell? ⟨wA.heap.size,0,none⟩ = some (.pointer (some ⟨zs,0,none⟩)):=cell_newb _ _ _ _ 0 _ (by first | rfl | simp) rfl
       have hbBl:w4.heap.size ≤ wA.heap.size:=by first | omega | exact hwA4
       have hC45911:=hC459.alloc (.cells #[.pointer (some ⟨zs,0,none⟩)] 94)
       refine hK.out _ _ ?hSe27 (fun hHeld2=>?hre27)
       case hSe27=>(try dsimp only);exact HQ.out _ (hF45911.mono (fun _ _ t=>.inl t))
       clear hK K hHeld
       have hHeld:=hHeld2
       clear hHeld2
       try simp only [Act.put,List.setIfInBounds_toArray,List.set]
       refine wpAnyH_ready (rs:=[12]) (by kernel_rfl) (by simp) ?_
       refine arc (fun K hK=>?_) AllReadyH.nil
       refine step_append_lies _ (by rfl) _ _ _ (by rfl) w.heap.size 94 i9 _ 1 8 Tryz.underlying90 ki9 kz91 kz92 kz93 rfl (by omega) _ _ _ (by rfl) (own_fr2 HN4.out.sr hF45911 HN4.out.apart) ⟨wA.heap.size,0,none⟩ 1 1 [.pointer (some ⟨zs,0,none⟩)] (by rfl) (by rfl) (fun j u hu=>by obtain ⟨rfl,rfl⟩:=one_of hu;rw [add_none];exact hB45911) (by simp [Value.oneCell']) (by omega) (by unfold maxLen;omega) (by omega) (Nat.le_trans h4s hF45911.size) _ rfl ?_
       intro gB cB wB hownB hgrB hatB hltB
       have hF4591112:Fr (fun q=>u7.ownBlock = some q ∨ sv.ownBlock = some q) w4 wB:=Fr.grown (hF45911.mono (fun _ _ t=>.inl t)) hgrB (fun g e _=>.inr e)
       have hAB:Fr (fun q=>sv.ownBlock = some q) wA wB:=Fr.grown (hC45911.mono (fun _ _ t=>t.elim)) hgrB (fun g e _=>e)
       have hgB4:sv.ownBlock = some gB ∨ wA.heap.size ≤ gB:=hatB.imp id (fun e=>by rw [e];exact hC45911.size)
       refine hK.out _ _ ?hSe28 (fun hHeld2=>?hre28)
       case hSe28=>(try dsimp only);exact HQ.out _ (hF4591112.mono (fun _ _ t=>t.imp id Or.inl))
       clear hK K hHeld
       have hHeld:=hHeld2
       clear hHeld2
       try simp only [Act.put,List.setIfInBounds_toArray,List.set]
       refine wtk (i:=13) ?_
       try simp only [Act.put,List.setIfInBounds_toArray,List.set]
       refine wtk (i:=14) ?_
       try simp only [Act.put,List.setIfInBounds_toArray,List.set]
       refine wtk (i:=15) ?_
       try simp only [Act.put,List.setIfInBounds_toArray,List.set]
       obtain ⟨hx7,hz7,hxl⟩:=HN4.out.pre hF4591112
       refine wpAnyH_ready (rs:=[16]) (by kernel_rfl) (by simp) ?_
       refine arc (fun K hK=>?_) AllReadyH.nil
       go_simp
       refine hK.out _ _ ?hSe32 (fun hHeld2=>?hre32)
       case hSe32=>(try dsimp only);exact HQ.out _ ((hF4591112.mono (T:=fun q=>u7.ownBlock = some q ∨ sv.ownBlock = some q ∨ q = x) (fun _ _ t=>t.imp id Or.inl)).setCell (p:=⟨x,7,none⟩) (.inr (.inr rfl)) _)
       clear hK K hHeld
       have hHeld:=hHeld2
       clear hHeld2
       try simp only [Act.put,List.setIfInBounds_toArray,List.set]
       refine wpAnyH_done (by kernel_rfl) ?_ _
       have HFIN:=Lib.hid (HNk.out.post hbw4 (by rw [hK,hm];exact HSK.out) (by rw [hK];exact HRL.out) ⟨Nat.le_trans (Nat.le_of_lt hszt) hn1,Nat.le_trans (Nat.le_of_lt hszt) hn2,Nat.le_trans (Nat.le_of_lt hszt) hn3,Nat.le_trans (Nat.le_of_lt hszt) hn4⟩ ⟨HSK.out.slt,HSK.out.wn.zlt,HSK.out.wn.rb.plt,HSK.out.wn.rb.qlt⟩ hF4591112 hownA hAB hownB hgA4 hgB4 hwA4)
       clear hHeld
       go_wp2_with fail
       go_roundw
       case rel=>exact ⟨k + 1,by omega,by simp,HFIN⟩
       case measure=>simp [intOf];omega
      refine arc (fun K hK=>?_) ?_
      ·skip
       go_simp
       have hF4911:=hF4.alloc (.cells #[.pointer (some ⟨zs,0,none⟩)] 94)
       have hB4911:((w4.drew.alloc (.cells #[.int .i64 (tk k).T] 3)).alloc (.cells #[.pointer (some ⟨zs,0,none⟩)] 94)).cell? ⟨(w4.heap.size + 1),0,none⟩ = some (.pointer (some ⟨zs,0,none⟩)):=cell_newb _ _ _ _ 0 _ (by first | rfl | simp) rfl
       have hbBl:w4.heap.size ≤ (w4.heap.size + 1):=by first | omega | exact hwA4
       have hA4911:=cell_bel (bel_alloc (Below.refl (w4.drew.alloc (.cells #[.int .i64 (tk k).T] 3)).heap.size (w4.drew.alloc (.cells #[.int .i64 (tk k).T] 3))) (.cells #[.pointer (some ⟨zs,0,none⟩)] 94)) hA4
       refine hK.out _ _ ?hSe33 (fun hHeld2=>?hre33)
       case hSe33=>(try dsimp only);exact HQ.out _ (hF4911.mono (fun _ _ t=>t.elim))
       clear hK K hHeld
       have hHeld:=hHeld2
       clear hHeld2
       try simp only [Act.put,List.setIfInBounds_toArray,List.set]
       refine wpAnyH_ready (rs:=[5]) (by kernel_rfl) (by simp) ?_
       refine arc (fun K hK=>?_) AllReadyH.nil
       refine step_append_lies _ (by rfl) _ _ _ (by rfl) w.heap.size 3 i3 _ 1 8 Tryz.underlying28 ki3 kz31 kz32 kz33 rfl (by omega) _ _ _ (by rfl) (own_fr2 HN4.out.ap hF4911 (fun _ _ t=>t)) ⟨w4.heap.size,0,none⟩ 1 1 [.int .i64 (tk k).T] (by rfl) (by rfl) (fun j u hu=>by obtain ⟨rfl,rfl⟩:=one_of hu;rw [add_none];exact hA4911) (by simp [Value.oneCell']) (by omega) (by unfold maxLen;omega) (by omega) (Nat.le_trans h4s hF4911.size) _ rfl ?_
       intro gA cA wA hownA hgrA hatA hltA
       have hF45911:Fr (fun q=>u7.ownBlock = some q) w4 wA:=Fr.grown (hF4911.mono (fun _ _ t=>t.elim)) hgrA (fun g e _=>e)
       have hC45911:=Fr.refl (fun _=>False) wA
       have hgA4:u7.ownBlock = some gA ∨ w4.heap.size ≤ gA:=hatA.imp id (fun e=>by rw [e];exact hF4911.size)
       have hwA4:w4.heap.size ≤ wA.heap.size:=hF45911.size
       have hB45911:=hgrA.cell hB4911 (fun e=>by have:=(HN4.out.lt _ (by rw [HN4.out.ca _ e.symm];omega)).2;have h9:w4.heap.size ≤ (w4.heap.size + 1):=hbBl;exact absurd h9 (Nat.not_le.2 this))
       refine hK.out _ _ ?hSe34 (fun hHeld2=>?hre34)
       case hSe34=>(try dsimp only);exact HQ.out _ (hF45911.mono (fun _ _ t=>.inl t))
       clear hK K hHeld
       have hHeld:=hHeld2
       clear hHeld2
       try simp only [Act.put,List.setIfInBounds_toArray,List.set]
       refine wpAnyH_ready (rs:=[12]) (by kernel_rfl) (by simp) ?_
       refine arc (fun K hK=>?_) AllReadyH.nil
       refine step_append_lies _ (by rfl) _ _ _ (by rfl) w.heap.size 94 i9 _ 1 8 Tryz.underlying90 ki9 kz91 kz92 kz93 rfl (by omega) _ _ _ (by rfl) (own_fr2 HN4.out.sr hF45911 HN4.out.apart) ⟨(w4.heap.size + 1),0,none⟩ 1 1 [.pointer (some ⟨zs,0,none⟩)] (by rfl) (by rfl) (fun j u hu=>by obtain ⟨rfl,rfl⟩:=one_of hu;rw [add_none];exact hB45911) (by simp [Value.oneCell']) (by omega) (by unfold maxLen;omega) (by omega) (Nat.le_trans h4s hF45911.size) _ rfl ?_
       intro gB cB wB hownB hgrB hatB hltB
       have hF4591112:Fr (fun q=>u7.ownBlock = some q ∨ sv.ownBlock = some q) w4 wB:=Fr.grown (hF45911.mono (fun _ _ t=>.inl t)) hgrB (fun g e _=>.inr e)
       have hAB:Fr (fun q=>sv.ownBlock = some q) wA wB:=Fr.grown (hC45911.mono (fun _ _ t=>t.elim)) hgrB (fun g e _=>e)
       have hgB4:sv.ownBlock = some gB ∨ wA.heap.size ≤ gB:=hatB.imp id (fun e=>by rw [e];exact hC45911.size)
       refine hK.out _ _ ?hSe35 (fun hHeld2=>?hre35)
       case hSe35=>(try dsimp only);exact HQ.out _ (hF4591112.mono (fun _ _ t=>t.imp id Or.inl))
       clear hK K hHeld
       have hHeld:=hHeld2
       clear hHeld2
       try simp only [Act.put,List.setIfInBounds_toArray,List.set]
       refine wtk (i:=13) ?_
       try simp only [Act.put,List.setIfInBounds_toArray,List.set]
       refine wtk (i:=14) ?_
       try simp only [Act.put,List.setIfInBounds_toArray,List.set]
       refine wtk (i:=15) ?_
       try simp only [Act.put,List.setIfInBounds_toArray,List.set]
       obtain ⟨hx7,hz7,hxl⟩:=HN4.out.pre hF4591112
       refine wpAnyH_ready (rs:=[16]) (by kernel_rfl) (by simp) ?_
       refine arc (fun K hK=>?_) AllReadyH.nil
       go_simp
       refine hK.out _ _ ?hSe39 (fun hHeld2=>?hre39)
       case hSe39=>(try dsimp only);exact HQ.out _ ((hF4591112.mono (T:=fun q=>u7.ownBlock = some q ∨ sv.ownBlock = some q ∨ q = x) (fun _ _ t=>t.imp id Or.inl)).setCell (p:=⟨x,7,none⟩) (.inr (.inr rfl)) _)
       clear hK K hHeld
       have hHeld:=hHeld2
       clear hHeld2
       try simp only [Act.put,List.setIfInBounds_toArray,List.set]
       refine wpAnyH_done (by kernel_rfl) ?_ _
       have HFIN:=Lib.hid (HNk.out.post hbw4 (by rw [hK,hm];exact HSK.out) (by rw [hK];exact HRL.out) ⟨Nat.le_trans (Nat.le_of_lt hszt) hn1,Nat.le_trans (Nat.le_of_lt hszt) hn2,Nat.le_trans (Nat.le_of_lt hszt) hn3,Nat.le_trans (Nat.le_of_lt hszt) hn4⟩ ⟨HSK.out.slt,HSK.out.wn.zlt,HSK.out.wn.rb.plt,HSK.out.wn.rb.qlt⟩ hF4591112 hownA hAB hownB hgA4 hgB4 hwA4)
       clear hHeld
       go_wp2_with fail
       go_roundw
       case rel=>exact ⟨k + 1,by omega,by simp,HFIN⟩
       case measure=>simp [intOf];omega
      exact AllReadyH.nil
     refine arc (fun K hK=>?_) ?_
     ·skip
      go_simp
      have hF411:=hF4.alloc (.cells #[.pointer (some ⟨zs,0,none⟩)] 94)
      have hB411:((w4.drew.alloc (.cells #[.int .i64 (tk k).T] 3)).alloc (.cells #[.pointer (some ⟨zs,0,none⟩)] 94)).cell? ⟨(w4.heap.size + 1),0,none⟩ = some (.pointer (some ⟨zs,0,none⟩)):=cell_newb _ _ _ _ 0 _ (by first | rfl | simp) rfl
      have hbBl:w4.heap.size ≤ (w4.heap.size + 1):=by first | omega | exact hwA4
      have hA411:=cell_bel (bel_alloc (Below.refl (w4.drew.alloc (.cells #[.int .i64 (tk k).T] 3)).heap.size (w4.drew.alloc (.cells #[.int .i64 (tk k).T] 3))) (.cells #[.pointer (some ⟨zs,0,none⟩)] 94)) hA4
      refine hK.out _ _ ?hSe40 (fun hHeld2=>?hre40)
      case hSe40=>(try dsimp only);exact HQ.out _ (hF411.mono (fun _ _ t=>t.elim))
      clear hK K hHeld
      have hHeld:=hHeld2
      clear hHeld2
      try simp only [Act.put,List.setIfInBounds_toArray,List.set]
      refine wpAnyH_ready (rs:=[5,9]) (by kernel_rfl) (by simp) ?_
      refine arc (fun K hK=>?_) ?_
      ·skip
       refine step_append_lies _ (by rfl) _ _ _ (by rfl) w.heap.size 3 i3 _ 1 8 Tryz.underlying28 ki3 kz31 kz32 kz33 rfl (by omega) _ _ _ (by rfl) (own_fr2 HN4.out.ap hF411 (fun _ _ t=>t)) ⟨w4.heap.size,0,none⟩ 1 1 [.int .i64 (tk k).T] (by rfl) (by rfl) (fun j u hu=>by obtain ⟨rfl,rfl⟩:=one_of hu;rw [add_none];exact hA411) (by simp [Value.oneCell']) (by omega) (by unfold maxLen;omega) (by omega) (Nat.le_trans h4s hF411.size) _ rfl ?_
       intro gA cA wA hownA hgrA hatA hltA
       have hF4511:Fr (fun q=>u7.ownBlock = some q) w4 wA:=Fr.grown (hF411.mono (fun _ _ t=>t.elim)) hgrA (fun g e _=>e)
       have hC4511:=Fr.refl (fun _=>False) wA
       have hgA4:u7.ownBlock = some gA ∨ w4.heap.size ≤ gA:=hatA.imp id (fun e=>by rw [e];exact hF411.size)
       have hwA4:w4.heap.size ≤ wA.heap.size:=hF4511.size
       have hB4511:=hgrA.cell hB411 (fun e=>by have:=(HN4.out.lt _ (by rw [HN4.out.ca _ e.symm];omega)).2;have h9:w4.heap.size ≤ (w4.heap.size + 1):=hbBl;exact absurd h9 (Nat.not_le.2 this))
       refine hK.out _ _ ?hSe41 (fun hHeld2=>?hre41)
       case hSe41=>(try dsimp only);exact HQ.out _ (hF4511.mono (fun _ _ t=>.inl t))
       clear hK K hHeld
       have hHeld:=hHeld2
       clear hHeld2
       try simp only [Act.put,List.setIfInBounds_toArray,List.set]
       refine wpAnyH_ready (rs:=[9]) (by kernel_rfl) (by simp) ?_
       refine arc (fun K hK=>?_) AllReadyH.nil
       obtain ⟨hx7,hz7,hxl⟩:=HN4.out.pre (hF4511.mono (fun _ _ t=>.inl t))
       go_simp
       clear hx7 hz7 hxl
       refine hK.out _ _ ?hSe42 (fun hHeld2=>?hre42)
       case hSe42=>(try dsimp only);exact HQ.out _ (hF4511.mono (fun _ _ t=>.inl t))
       clear hK K hHeld
       have hHeld:=hHeld2
       clear hHeld2
       try simp only [Act.put,List.setIfInBounds_toArray,List.set]
       refine wpAnyH_ready (rs:=[12]) (by kernel_rfl) (by simp) ?_
       refine arc (fun K hK=>?_) AllReadyH.nil
       refine step_append_lies _ (by rfl) _ _ _ (by rfl) w.heap.size 94 i9 _ 1 8 Tryz.underlying90 ki9 kz91 kz92 kz93 rfl (by omega) _ _ _ (by rfl) (own_fr2 HN4.out.sr hF4511 HN4.out.apart) ⟨(w4.heap.size + 1),0,none⟩ 1 1 [.pointer (some ⟨zs,0,none⟩)] (by rfl) (by rfl) (fun j u hu=>by obtain ⟨rfl,rfl⟩:=one_of hu;rw [add_none];exact hB4511) (by simp [Value.oneCell']) (by omega) (by unfold maxLen;omega) (by omega) (Nat.le_trans h4s hF4511.size) _ rfl ?_
       intro gB cB wB hownB hgrB hatB hltB
       have hF4591112:Fr (fun q=>u7.ownBlock = some q ∨ sv.ownBlock = some q) w4 wB:=Fr.grown (hF4511.mono (fun _ _ t=>.inl t)) hgrB (fun g e _=>.inr e)
       have hAB:Fr (fun q=>sv.ownBlock = some q) wA wB:=Fr.grown (hC4511.mono (fun _ _ t=>t.elim)) hgrB (fun g e _=>e)
       have hgB4:sv.ownBlock = some gB ∨ wA.heap.size ≤ gB:=hatB.imp id (fun e=>by rw [e];exact hC4511.size)
       refine hK.out _ _ ?hSe43 (fun hHeld2=>?hre43)
       case hSe43=>(try dsimp only);exact HQ.out _ (hF4591112.mono (fun _ _ t=>t.imp id Or.inl))
       clear hK K hHeld
       have hHeld:=hHeld2
       clear hHeld2
       try simp only [Act.put,List.setIfInBounds_toArray,List.set]
       refine wtk (i:=13) ?_
       try simp only [Act.put,List.setIfInBounds_toArray,List.set]
       refine wtk (i:=14) ?_
       try simp only [Act.put,List.setIfInBounds_toArray,List.set]
       refine wtk (i:=15) ?_
       try simp only [Act.put,List.setIfInBounds_toArray,List.set]
       obtain ⟨hx7,hz7,hxl⟩:=HN4.out.pre hF4591112
       refine wpAnyH_ready (rs:=[16]) (by kernel_rfl) (by simp) ?_
       refine arc (fun K hK=>?_) AllReadyH.nil
       go_simp
       refine hK.out _ _ ?hSe47 (fun hHeld2=>?hre47)
       case hSe47=>(try dsimp only);exact HQ.out _ ((hF4591112.mono (T:=fun q=>u7.ownBlock = some q ∨ sv.ownBlock = some q ∨ q = x) (fun _ _ t=>t.imp id Or.inl)).setCell (p:=⟨x,7,none⟩) (.inr (.inr rfl)) _)
       clear hK K hHeld
       have hHeld:=hHeld2
       clear hHeld2
       try simp only [Act.put,List.setIfInBounds_toArray,List.set]
       refine wpAnyH_done (by kernel_rfl) ?_ _
       have HFIN:=Lib.hid (HNk.out.post hbw4 (by rw [hK,hm];exact HSK.out) (by rw [hK];exact HRL.out) ⟨Nat.le_trans (Nat.le_of_lt hszt) hn1,Nat.le_trans (Nat.le_of_lt hszt) hn2,Nat.le_trans (Nat.le_of_lt hszt) hn3,Nat.le_trans (Nat.le_of_lt hszt) hn4⟩ ⟨HSK.out.slt,HSK.out.wn.zlt,HSK.out.wn.rb.plt,HSK.out.wn.rb.qlt⟩ hF4591112 hownA hAB hownB hgA4 hgB4 hwA4)
       clear hHeld
       go_wp2_with fail
       go_roundw
       case rel=>exact ⟨k + 1,by omega,by simp,HFIN⟩
       case measure=>simp [intOf];omega
      refine arc (fun K hK=>?_) ?_
      ·skip
       obtain ⟨hx7,hz7,hxl⟩:=HN4.out.pre ((Fr.refl (fun _=>False) w4).mono (fun _ _ t=>t.elim))
       go_simp
       clear hx7 hz7 hxl
       refine hK.out _ _ ?hSe48 (fun hHeld2=>?hre48)
       case hSe48=>(try dsimp only);exact HQ.out _ (hF411.mono (fun _ _ t=>t.elim))
       clear hK K hHeld
       have hHeld:=hHeld2
       clear hHeld2
       try simp only [Act.put,List.setIfInBounds_toArray,List.set]
       refine wpAnyH_ready (rs:=[5]) (by kernel_rfl) (by simp) ?_
       refine arc (fun K hK=>?_) AllReadyH.nil
       refine step_append_lies _ (by rfl) _ _ _ (by rfl) w.heap.size 3 i3 _ 1 8 Tryz.underlying28 ki3 kz31 kz32 kz33 rfl (by omega) _ _ _ (by rfl) (own_fr2 HN4.out.ap hF411 (fun _ _ t=>t)) ⟨w4.heap.size,0,none⟩ 1 1 [.int .i64 (tk k).T] (by rfl) (by rfl) (fun j u hu=>by obtain ⟨rfl,rfl⟩:=one_of hu;rw [add_none];exact hA411) (by simp [Value.oneCell']) (by omega) (by unfold maxLen;omega) (by omega) (Nat.le_trans h4s hF411.size) _ rfl ?_
       intro gA cA wA hownA hgrA hatA hltA
       have hF45911:Fr (fun q=>u7.ownBlock = some q) w4 wA:=Fr.grown (hF411.mono (fun _ _ t=>t.elim)) hgrA (fun g e _=>e)
       have hC45911:=Fr.refl (fun _=>False) wA
       have hgA4:u7.ownBlock = some gA ∨ w4.heap.size ≤ gA:=hatA.imp id (fun e=>by rw [e];exact hF411.size)
       have hwA4:w4.heap.size ≤ wA.heap.size:=hF45911.size
       have hB45911:=hgrA.cell hB411 (fun e=>by have:=(HN4.out.lt _ (by rw [HN4.out.ca _ e.symm];omega)).2;have h9:w4.heap.size ≤ (w4.heap.size + 1):=hbBl;exact absurd h9 (Nat.not_le.2 this))
       refine hK.out _ _ ?hSe49 (fun hHeld2=>?hre49)
       case hSe49=>(try dsimp only);exact HQ.out _ (hF45911.mono (fun _ _ t=>.inl t))
       clear hK K hHeld
       have hHeld:=hHeld2
       clear hHeld2
       try simp only [Act.put,List.setIfInBounds_toArray,List.set]
       refine wpAnyH_ready (rs:=[12]) (by kernel_rfl) (by simp) ?_
       refine arc (fun K hK=>?_) AllReadyH.nil
       refine step_append_lies _ (by rfl) _ _ _ (by rfl) w.heap.size 94 i9 _ 1 8 Tryz.underlying90 ki9 kz91 kz92 kz93 rfl (by omega) _ _ _ (by rfl) (own_fr2 HN4.out.sr hF45911 HN4.out.apart) ⟨(w4.heap.size + 1),0,none⟩ 1 1 [.pointer (some ⟨zs,0,none⟩)] (by rfl) (by rfl) (fun j u hu=>by obtain ⟨rfl,rfl⟩:=one_of hu;rw [add_none];exact hB45911) (by simp [Value.oneCell']) (by omega) (by unfold maxLen;omega) (by omega) (Nat.le_trans h4s hF45911.size) _ rfl ?_
       intro gB cB wB hownB hgrB hatB hltB
       have hF4591112:Fr (fun q=>u7.ownBlock = some q ∨ sv.ownBlock = some q) w4 wB:=Fr.grown (hF45911.mono (fun _ _ t=>.inl t)) hgrB (fun g e _=>.inr e)
       have hAB:Fr (fun q=>sv.ownBlock = some q) wA wB:=Fr.grown (hC45911.mono (fun _ _ t=>t.elim)) hgrB (fun g e _=>e)
       have hgB4:sv.ownBlock = some gB ∨ wA.heap.size ≤ gB:=hatB.imp id (fun e=>by rw [e];exact hC45911.size)
       refine hK.out _ _ ?hSe50 (fun hHeld2=>?hre50)
       case hSe50=>(try dsimp only);exact HQ.out _ (hF4591112.mono (fun _ _ t=>t.imp id Or.inl))
       clear hK K hHeld
       have hHeld:=hHeld2
       clear hHeld2
       try simp only [Act.put,List.setIfInBounds_toArray,List.set]
       refine wtk (i:=13) ?_
       try simp only [Act.put,List.setIfInBounds_toArray,List.set]
       refine wtk (i:=14) ?_
       try simp only [Act.put,List.setIfInBounds_toArray,List.set]
       refine wtk (i:=15) ?_
       try simp only [Act.put,List.setIfInBounds_toArray,List.set]
       obtain ⟨hx7,hz7,hxl⟩:=HN4.out.pre hF4591112
       refine wpAnyH_ready (rs:=[16]) (by kernel_rfl) (by simp) ?_
       refine arc (fun K hK=>?_) AllReadyH.nil
       go_simp
       refine hK.out _ _ ?hSe54 (fun hHeld2=>?hre54)
       case hSe54=>(try dsimp only);exact HQ.out _ ((hF4591112.mono (T:=fun q=>u7.ownBlock = some q ∨ sv.ownBlock = some q ∨ q = x) (fun _ _ t=>t.imp id Or.inl)).setCell (p:=⟨x,7,none⟩) (.inr (.inr rfl)) _)
       clear hK K hHeld
       have hHeld:=hHeld2
       clear hHeld2
       try simp only [Act.put,List.setIfInBounds_toArray,List.set]
       refine wpAnyH_done (by kernel_rfl) ?_ _
       have HFIN:=Lib.hid (HNk.out.post hbw4 (by rw [hK,hm];exact HSK.out) (by rw [hK];exact HRL.out) ⟨Nat.le_trans (Nat.le_of_lt hszt) hn1,Nat.le_trans (Nat.le_of_lt hszt) hn2,Nat.le_trans (Nat.le_of_lt hszt) hn3,Nat.le_trans (Nat.le_of_lt hszt) hn4⟩ ⟨HSK.out.slt,HSK.out.wn.zlt,HSK.out.wn.rb.plt,HSK.out.wn.rb.qlt⟩ hF4591112 hownA hAB hownB hgA4 hgB4 hwA4)
       clear hHeld
       go_wp2_with fail
       go_roundw
       case rel=>exact ⟨k + 1,by omega,by simp,HFIN⟩
       case measure=>simp [intOf];omega
      exact AllReadyH.nil
     exact AllReadyH.nil
    refine arc (fun K hK=>?_) ?_
    ·skip
     obtain ⟨hx7,hz7,hxl⟩:=HN4.out.pre ((Fr.refl (fun _=>False) w4).mono (fun _ _ t=>t.elim))
     go_simp
     clear hx7 hz7 hxl
     refine hK.out _ _ ?hSe55 (fun hHeld2=>?hre55)
     case hSe55=>(try dsimp only);exact HQ.out _ (hF.mono (fun _ _ t=>t.elim))
     clear hK K hHeld
     have hHeld:=hHeld2
     clear hHeld2
     try simp only [Act.put,List.setIfInBounds_toArray,List.set]
     refine wpAnyH_ready (rs:=[4,11]) (by kernel_rfl) (by simp) ?_
     refine arc (fun K hK=>?_) ?_
     ·skip
      go_simp
      have hF49:=hF.alloc (.cells #[.int .i64 (tk k).T] 3)
      have hA49:(w4.drew.alloc (.cells #[.int .i64 (tk k).T] 3)).cell? ⟨w4.heap.size,0,none⟩ = some (.int .i64 (tk k).T):=cell_newb _ _ _ _ 0 _ (by first | rfl | simp) rfl
      refine hK.out _ _ ?hSe56 (fun hHeld2=>?hre56)
      case hSe56=>(try dsimp only);exact HQ.out _ (hF49.mono (fun _ _ t=>t.elim))
      clear hK K hHeld
      have hHeld:=hHeld2
      clear hHeld2
      try simp only [Act.put,List.setIfInBounds_toArray,List.set]
      refine wpAnyH_ready (rs:=[5,11]) (by kernel_rfl) (by simp) ?_
      refine arc (fun K hK=>?_) ?_
      ·skip
       refine step_append_lies _ (by rfl) _ _ _ (by rfl) w.heap.size 3 i3 _ 1 8 Tryz.underlying28 ki3 kz31 kz32 kz33 rfl (by omega) _ _ _ (by rfl) (own_fr2 HN4.out.ap hF49 (fun _ _ t=>t)) ⟨w4.heap.size,0,none⟩ 1 1 [.int .i64 (tk k).T] (by rfl) (by rfl) (fun j u hu=>by obtain ⟨rfl,rfl⟩:=one_of hu;rw [add_none];exact hA49) (by simp [Value.oneCell']) (by omega) (by unfold maxLen;omega) (by omega) (Nat.le_trans h4s hF49.size) _ rfl ?_
       intro gA cA wA hownA hgrA hatA hltA
       have hF459:Fr (fun q=>u7.ownBlock = some q) w4 wA:=Fr.grown (hF49.mono (fun _ _ t=>t.elim)) hgrA (fun g e _=>e)
       have hC459:=Fr.refl (fun _=>False) wA
       have hgA4:u7.ownBlock = some gA ∨ w4.heap.size ≤ gA:=hatA.imp id (fun e=>by rw [e];exact hF49.size)
       have hwA4:w4.heap.size ≤ wA.heap.size:=hF459.size
       refine hK.out _ _ ?hSe57 (fun hHeld2=>?hre57)
       case hSe57=>(try dsimp only);exact HQ.out _ (hF459.mono (fun _ _ t=>.inl t))
       clear hK K hHeld
       have hHeld:=hHeld2
       clear hHeld2
       try simp only [Act.put,List.setIfInBounds_toArray,List.set]
       refine wpAnyH_ready (rs:=[11]) (by kernel_rfl) (by simp) ?_
       refine arc (fun K hK=>?_) AllReadyH.nil
       go_simp
       have hF45911:=hF459.alloc (.cells #[.pointer (some ⟨zs,0,none⟩)] 94)
       have hB45911:(wA.alloc (.cells #[.pointer (some ⟨zs,0,none⟩)] 94)).cell? ⟨wA.heap.size,0,none⟩ = some (.pointer (some ⟨zs,0,none⟩)):=cell_newb _ _ _ _ 0 _ (by first | rfl | simp) rfl
       have hbBl:w4.heap.size ≤ wA.heap.size:=by first | omega | exact hwA4
       have hC45911:=hC459.alloc (.cells #[.pointer (some ⟨zs,0,none⟩)] 94)
       refine hK.out _ _ ?hSe58 (fun hHeld2=>?hre58)
       case hSe58=>(try dsimp only);exact HQ.out _ (hF45911.mono (fun _ _ t=>.inl t))
       clear hK K hHeld
       have hHeld:=hHeld2
       clear hHeld2
       try simp only [Act.put,List.setIfInBounds_toArray,List.set]
       refine wpAnyH_ready (rs:=[12]) (by kernel_rfl) (by simp) ?_
       refine arc (fun K hK=>?_) AllReadyH.nil
       refine step_append_lies _ (by rfl) _ _ _ (by rfl) w.heap.size 94 i9 _ 1 8 Tryz.underlying90 ki9 kz91 kz92 kz93 rfl (by omega) _ _ _ (by rfl) (own_fr2 HN4.out.sr hF45911 HN4.out.apart) ⟨wA.heap.size,0,none⟩ 1 1 [.pointer (some ⟨zs,0,none⟩)] (by rfl) (by rfl) (fun j u hu=>by obtain ⟨rfl,rfl⟩:=one_of hu;rw [add_none];exact hB45911) (by simp [Value.oneCell']) (by omega) (by unfold maxLen;omega) (by omega) (Nat.le_trans h4s hF45911.size) _ rfl ?_
       intro gB cB wB hownB hgrB hatB hltB
       have hF4591112:Fr (fun q=>u7.ownBlock = some q ∨ sv.ownBlock = some q) w4 wB:=Fr.grown (hF45911.mono (fun _ _ t=>.inl t)) hgrB (fun g e _=>.inr e)
       have hAB:Fr (fun q=>sv.ownBlock = some q) wA wB:=Fr.grown (hC45911.mono (fun _ _ t=>t.elim)) hgrB (fun g e _=>e)
       have hgB4:sv.ownBlock = some gB ∨ wA.heap.size ≤ gB:=hatB.imp id (fun e=>by rw [e];exact hC45911.size)
       refine hK.out _ _ ?hSe59 (fun hHeld2=>?hre59)
       case hSe59=>(try dsimp only);exact HQ.out _ (hF4591112.mono (fun _ _ t=>t.imp id Or.inl))
       clear hK K hHeld
       have hHeld:=hHeld2
       clear hHeld2
       try simp only [Act.put,List.setIfInBounds_toArray,List.set]
       refine wtk (i:=13) ?_
       try simp only [Act.put,List.setIfInBounds_toArray,List.set]
       refine wtk (i:=14) ?_
       try simp only [Act.put,List.setIfInBounds_toArray,List.set]
       refine wtk (i:=15) ?_
       try simp only [Act.put,List.setIfInBounds_toArray,List.set]
       obtain ⟨hx7,hz7,hxl⟩:=HN4.out.pre hF4591112
       refine wpAnyH_ready (rs:=[16]) (by kernel_rfl) (by simp) ?_
       refine arc (fun K hK=>?_) AllReadyH.nil
       go_simp
       refine hK.out _ _ ?hSe63 (fun hHeld2=>?hre63)
       case hSe63=>(try dsimp only);exact HQ.out _ ((hF4591112.mono (T:=fun q=>u7.ownBlock = some q ∨ sv.ownBlock = some q ∨ q = x) (fun _ _ t=>t.imp id Or.inl)).setCell (p:=⟨x,7,none⟩) (.inr (.inr rfl)) _)
       clear hK K hHeld
       have hHeld:=hHeld2
       clear hHeld2
       try simp only [Act.put,List.setIfInBounds_toArray,List.set]
       refine wpAnyH_done (by kernel_rfl) ?_ _
       have HFIN:=Lib.hid (HNk.out.post hbw4 (by rw [hK,hm];exact HSK.out) (by rw [hK];exact HRL.out) ⟨Nat.le_trans (Nat.le_of_lt hszt) hn1,Nat.le_trans (Nat.le_of_lt hszt) hn2,Nat.le_trans (Nat.le_of_lt hszt) hn3,Nat.le_trans (Nat.le_of_lt hszt) hn4⟩ ⟨HSK.out.slt,HSK.out.wn.zlt,HSK.out.wn.rb.plt,HSK.out.wn.rb.qlt⟩ hF4591112 hownA hAB hownB hgA4 hgB4 hwA4)
       clear hHeld
       go_wp2_with fail
       go_roundw
       case rel=>exact ⟨k + 1,by omega,by simp,HFIN⟩
       case measure=>simp [intOf];omega
      refine arc (fun K hK=>?_) ?_
      ·skip
       go_simp
       have hF4911:=hF49.alloc (.cells #[.pointer (some ⟨zs,0,none⟩)] 94)
       have hB4911:((w4.drew.alloc (.cells #[.int .i64 (tk k).T] 3)).alloc (.cells #[.pointer (some ⟨zs,0,none⟩)] 94)).cell? ⟨(w4.heap.size + 1),0,none⟩ = some (.pointer (some ⟨zs,0,none⟩)):=cell_newb _ _ _ _ 0 _ (by first | rfl | simp) rfl
       have hbBl:w4.heap.size ≤ (w4.heap.size + 1):=by first | omega | exact hwA4
       have hA4911:=cell_bel (bel_alloc (Below.refl (w4.drew.alloc (.cells #[.int .i64 (tk k).T] 3)).heap.size (w4.drew.alloc (.cells #[.int .i64 (tk k).T] 3))) (.cells #[.pointer (some ⟨zs,0,none⟩)] 94)) hA49
       refine hK.out _ _ ?hSe64 (fun hHeld2=>?hre64)
       case hSe64=>(try dsimp only);exact HQ.out _ (hF4911.mono (fun _ _ t=>t.elim))
       clear hK K hHeld
       have hHeld:=hHeld2
       clear hHeld2
       try simp only [Act.put,List.setIfInBounds_toArray,List.set]
       refine wpAnyH_ready (rs:=[5]) (by kernel_rfl) (by simp) ?_
       refine arc (fun K hK=>?_) AllReadyH.nil
       refine step_append_lies _ (by rfl) _ _ _ (by rfl) w.heap.size 3 i3 _ 1 8 Tryz.underlying28 ki3 kz31 kz32 kz33 rfl (by omega) _ _ _ (by rfl) (own_fr2 HN4.out.ap hF4911 (fun _ _ t=>t)) ⟨w4.heap.size,0,none⟩ 1 1 [.int .i64 (tk k).T] (by rfl) (by rfl) (fun j u hu=>by obtain ⟨rfl,rfl⟩:=one_of hu;rw [add_none];exact hA4911) (by simp [Value.oneCell']) (by omega) (by unfold maxLen;omega) (by omega) (Nat.le_trans h4s hF4911.size) _ rfl ?_
       intro gA cA wA hownA hgrA hatA hltA
       have hF45911:Fr (fun q=>u7.ownBlock = some q) w4 wA:=Fr.grown (hF4911.mono (fun _ _ t=>t.elim)) hgrA (fun g e _=>e)
       have hC45911:=Fr.refl (fun _=>False) wA
       have hgA4:u7.ownBlock = some gA ∨ w4.heap.size ≤ gA:=hatA.imp id (fun e=>by rw [e];exact hF4911.size)
       have hwA4:w4.heap.size ≤ wA.heap.size:=hF45911.size
       have hB45911:=hgrA.cell hB4911 (fun e=>by have:=(HN4.out.lt _ (by rw [HN4.out.ca _ e.symm];omega)).2;have h9:w4.heap.size ≤ (w4.heap.size + 1):=hbBl;exact absurd h9 (Nat.not_le.2 this))
       refine hK.out _ _ ?hSe65 (fun hHeld2=>?hre65)
       case hSe65=>(try dsimp only);exact HQ.out _ (hF45911.mono (fun _ _ t=>.inl t))
       clear hK K hHeld
       have hHeld:=hHeld2
       clear hHeld2
       try simp only [Act.put,List.setIfInBounds_toArray,List.set]
       refine wpAnyH_ready (rs:=[12]) (by kernel_rfl) (by simp) ?_
       refine arc (fun K hK=>?_) AllReadyH.nil
       refine step_append_lies _ (by rfl) _ _ _ (by rfl) w.heap.size 94 i9 _ 1 8 Tryz.underlying90 ki9 kz91 kz92 kz93 rfl (by omega) _ _ _ (by rfl) (own_fr2 HN4.out.sr hF45911 HN4.out.apart) ⟨(w4.heap.size + 1),0,none⟩ 1 1 [.pointer (some ⟨zs,0,none⟩)] (by rfl) (by rfl) (fun j u hu=>by obtain ⟨rfl,rfl⟩:=one_of hu;rw [add_none];exact hB45911) (by simp [Value.oneCell']) (by omega) (by unfold maxLen;omega) (by omega) (Nat.le_trans h4s hF45911.size) _ rfl ?_
       intro gB cB wB hownB hgrB hatB hltB
       have hF4591112:Fr (fun q=>u7.ownBlock = some q ∨ sv.ownBlock = some q) w4 wB:=Fr.grown (hF45911.mono (fun _ _ t=>.inl t)) hgrB (fun g e _=>.inr e)
       have hAB:Fr (fun q=>sv.ownBlock = some q) wA wB:=Fr.grown (hC45911.mono (fun _ _ t=>t.elim)) hgrB (fun g e _=>e)
       have hgB4:sv.ownBlock = some gB ∨ wA.heap.size ≤ gB:=hatB.imp id (fun e=>by rw [e];exact hC45911.size)
       refine hK.out _ _ ?hSe66 (fun hHeld2=>?hre66)
       case hSe66=>(try dsimp only);exact HQ.out _ (hF4591112.mono (fun _ _ t=>t.imp id Or.inl))
       clear hK K hHeld
       have hHeld:=hHeld2
       clear hHeld2
       try simp only [Act.put,List.setIfInBounds_toArray,List.set]
       refine wtk (i:=13) ?_
       try simp only [Act.put,List.setIfInBounds_toArray,List.set]
       refine wtk (i:=14) ?_
       try simp only [Act.put,List.setIfInBounds_toArray,List.set]
       refine wtk (i:=15) ?_
       try simp only [Act.put,List.setIfInBounds_toArray,List.set]
       obtain ⟨hx7,hz7,hxl⟩:=HN4.out.pre hF4591112
       refine wpAnyH_ready (rs:=[16]) (by kernel_rfl) (by simp) ?_
       refine arc (fun K hK=>?_) AllReadyH.nil
       go_simp
       refine hK.out _ _ ?hSe70 (fun hHeld2=>?hre70)
       case hSe70=>(try dsimp only);exact HQ.out _ ((hF4591112.mono (T:=fun q=>u7.ownBlock = some q ∨ sv.ownBlock = some q ∨ q = x) (fun _ _ t=>t.imp id Or.inl)).setCell (p:=⟨x,7,none⟩) (.inr (.inr rfl)) _)
       clear hK K hHeld
       have hHeld:=hHeld2
       clear hHeld2
       try simp only [Act.put,List.setIfInBounds_toArray,List.set]
       refine wpAnyH_done (by kernel_rfl) ?_ _
       have HFIN:=Lib.hid (HNk.out.post hbw4 (by rw [hK,hm];exact HSK.out) (by rw [hK];exact HRL.out) ⟨Nat.le_trans (Nat.le_of_lt hszt) hn1,Nat.le_trans (Nat.le_of_lt hszt) hn2,Nat.le_trans (Nat.le_of_lt hszt) hn3,Nat.le_trans (Nat.le_of_lt hszt) hn4⟩ ⟨HSK.out.slt,HSK.out.wn.zlt,HSK.out.wn.rb.plt,HSK.out.wn.rb.qlt⟩ hF4591112 hownA hAB hownB hgA4 hgB4 hwA4)
       clear hHeld
       go_wp2_with fail
       go_roundw
       case rel=>exact ⟨k + 1,by omega,by simp,HFIN⟩
       case measure=>simp [intOf];omega
      exact AllReadyH.nil
     refine arc (fun K hK=>?_) ?_
     ·skip
      go_simp
      have hF911:=hF.alloc (.cells #[.pointer (some ⟨zs,0,none⟩)] 94)
      have hB911:(w4.drew.alloc (.cells #[.pointer (some ⟨zs,0,none⟩)] 94)).cell? ⟨w4.heap.size,0,none⟩ = some (.pointer (some ⟨zs,0,none⟩)):=cell_newb _ _ _ _ 0 _ (by first | rfl | simp) rfl
      have hbBl:w4.heap.size ≤ w4.heap.size:=by first | omega | exact hwA4
      refine hK.out _ _ ?hSe71 (fun hHeld2=>?hre71)
      case hSe71=>(try dsimp only);exact HQ.out _ (hF911.mono (fun _ _ t=>t.elim))
      clear hK K hHeld
      have hHeld:=hHeld2
      clear hHeld2
      try simp only [Act.put,List.setIfInBounds_toArray,List.set]
      refine wpAnyH_ready (rs:=[4]) (by kernel_rfl) (by simp) ?_
      refine arc (fun K hK=>?_) AllReadyH.nil
      go_simp
      have hF4911:=hF911.alloc (.cells #[.int .i64 (tk k).T] 3)
      have hA4911:((w4.drew.alloc (.cells #[.pointer (some ⟨zs,0,none⟩)] 94)).alloc (.cells #[.int .i64 (tk k).T] 3)).cell? ⟨(w4.heap.size + 1),0,none⟩ = some (.int .i64 (tk k).T):=cell_newb _ _ _ _ 0 _ (by first | rfl | simp) rfl
      have hB4911:=cell_bel (bel_alloc (Below.refl (w4.drew.alloc (.cells #[.pointer (some ⟨zs,0,none⟩)] 94)).heap.size (w4.drew.alloc (.cells #[.pointer (some ⟨zs,0,none⟩)] 94))) (.cells #[.int .i64 (tk k).T] 3)) hB911
      refine hK.out _ _ ?hSe72 (fun hHeld2=>?hre72)
      case hSe72=>(try dsimp only);exact HQ.out _ (hF4911.mono (fun _ _ t=>t.elim))
      clear hK K hHeld
      have hHeld:=hHeld2
      clear hHeld2
      try simp only [Act.put,List.setIfInBounds_toArray,List.set]
      refine wpAnyH_ready (rs:=[5]) (by kernel_rfl) (by simp) ?_
      refine arc (fun K hK=>?_) AllReadyH.nil
      refine step_append_lies _ (by rfl) _ _ _ (by rfl) w.heap.size 3 i3 _ 1 8 Tryz.underlying28 ki3 kz31 kz32 kz33 rfl (by omega) _ _ _ (by rfl) (own_fr2 HN4.out.ap hF4911 (fun _ _ t=>t)) ⟨(w4.heap.size + 1),0,none⟩ 1 1 [.int .i64 (tk k).T] (by rfl) (by rfl) (fun j u hu=>by obtain ⟨rfl,rfl⟩:=one_of hu;rw [add_none];exact hA4911) (by simp [Value.oneCell']) (by omega) (by unfold maxLen;omega) (by omega) (Nat.le_trans h4s hF4911.size) _ rfl ?_
      intro gA cA wA hownA hgrA hatA hltA
      have hF45911:Fr (fun q=>u7.ownBlock = some q) w4 wA:=Fr.grown (hF4911.mono (fun _ _ t=>t.elim)) hgrA (fun g e _=>e)
      have hC45911:=Fr.refl (fun _=>False) wA
      have hgA4:u7.ownBlock = some gA ∨ w4.heap.size ≤ gA:=hatA.imp id (fun e=>by rw [e];exact hF4911.size)
      have hwA4:w4.heap.size ≤ wA.heap.size:=hF45911.size
      have hB45911:=hgrA.cell hB4911 (fun e=>by have:=(HN4.out.lt _ (by rw [HN4.out.ca _ e.symm];omega)).2;have h9:w4.heap.size ≤ w4.heap.size:=hbBl;exact absurd h9 (Nat.not_le.2 this))
      refine hK.out _ _ ?hSe73 (fun hHeld2=>?hre73)
      case hSe73=>(try dsimp only);exact HQ.out _ (hF45911.mono (fun _ _ t=>.inl t))
      clear hK K hHeld
      have hHeld:=hHeld2
      clear hHeld2
      try simp only [Act.put,List.setIfInBounds_toArray,List.set]
      refine wpAnyH_ready (rs:=[12]) (by kernel_rfl) (by simp) ?_
      refine arc (fun K hK=>?_) AllReadyH.nil
      refine step_append_lies _ (by rfl) _ _ _ (by rfl) w.heap.size 94 i9 _ 1 8 Tryz.underlying90 ki9 kz91 kz92 kz93 rfl (by omega) _ _ _ (by rfl) (own_fr2 HN4.out.sr hF45911 HN4.out.apart) ⟨w4.heap.size,0,none⟩ 1 1 [.pointer (some ⟨zs,0,none⟩)] (by rfl) (by rfl) (fun j u hu=>by obtain ⟨rfl,rfl⟩:=one_of hu;rw [add_none];exact hB45911) (by simp [Value.oneCell']) (by omega) (by unfold maxLen;omega) (by omega) (Nat.le_trans h4s hF45911.size) _ rfl ?_
      intro gB cB wB hownB hgrB hatB hltB
      have hF4591112:Fr (fun q=>u7.ownBlock = some q ∨ sv.ownBlock = some q) w4 wB:=Fr.grown (hF45911.mono (fun _ _ t=>.inl t)) hgrB (fun g e _=>.inr e)
      have hAB:Fr (fun q=>sv.ownBlock = some q) wA wB:=Fr.grown (hC45911.mono (fun _ _ t=>t.elim)) hgrB (fun g e _=>e)
      have hgB4:sv.ownBlock = some gB ∨ wA.heap.size ≤ gB:=hatB.imp id (fun e=>by rw [e];exact hC45911.size)
      refine hK.out _ _ ?hSe74 (fun hHeld2=>?hre74)
      case hSe74=>(try dsimp only);exact HQ.out _ (hF4591112.mono (fun _ _ t=>t.imp id Or.inl))
      clear hK K hHeld
      have hHeld:=hHeld2
      clear hHeld2
      try simp only [Act.put,List.setIfInBounds_toArray,List.set]
      refine wtk (i:=13) ?_
      try simp only [Act.put,List.setIfInBounds_toArray,List.set]
      refine wtk (i:=14) ?_
      try simp only [Act.put,List.setIfInBounds_toArray,List.set]
      refine wtk (i:=15) ?_
      try simp only [Act.put,List.setIfInBounds_toArray,List.set]
      obtain ⟨hx7,hz7,hxl⟩:=HN4.out.pre hF4591112
      refine wpAnyH_ready (rs:=[16]) (by kernel_rfl) (by simp) ?_
      refine arc (fun K hK=>?_) AllReadyH.nil
      go_simp
      refine hK.out _ _ ?hSe78 (fun hHeld2=>?hre78)
      case hSe78=>(try dsimp only);exact HQ.out _ ((hF4591112.mono (T:=fun q=>u7.ownBlock = some q ∨ sv.ownBlock = some q ∨ q = x) (fun _ _ t=>t.imp id Or.inl)).setCell (p:=⟨x,7,none⟩) (.inr (.inr rfl)) _)
      clear hK K hHeld
      have hHeld:=hHeld2
      clear hHeld2
      try simp only [Act.put,List.setIfInBounds_toArray,List.set]
      refine wpAnyH_done (by kernel_rfl) ?_ _
      have HFIN:=Lib.hid (HNk.out.post hbw4 (by rw [hK,hm];exact HSK.out) (by rw [hK];exact HRL.out) ⟨Nat.le_trans (Nat.le_of_lt hszt) hn1,Nat.le_trans (Nat.le_of_lt hszt) hn2,Nat.le_trans (Nat.le_of_lt hszt) hn3,Nat.le_trans (Nat.le_of_lt hszt) hn4⟩ ⟨HSK.out.slt,HSK.out.wn.zlt,HSK.out.wn.rb.plt,HSK.out.wn.rb.qlt⟩ hF4591112 hownA hAB hownB hgA4 hgB4 hwA4)
      clear hHeld
      go_wp2_with fail
      go_roundw
      case rel=>exact ⟨k + 1,by omega,by simp,HFIN⟩
      case measure=>simp [intOf];omega
     exact AllReadyH.nil
    refine arc (fun K hK=>?_) ?_
    ·skip
     go_simp
     have hF11:=hF.alloc (.cells #[.pointer (some ⟨zs,0,none⟩)] 94)
     have hB11:(w4.drew.alloc (.cells #[.pointer (some ⟨zs,0,none⟩)] 94)).cell? ⟨w4.heap.size,0,none⟩ = some (.pointer (some ⟨zs,0,none⟩)):=cell_newb _ _ _ _ 0 _ (by first | rfl | simp) rfl
     have hbBl:w4.heap.size ≤ w4.heap.size:=by first | omega | exact hwA4
     refine hK.out _ _ ?hSe79 (fun hHeld2=>?hre79)
     case hSe79=>(try dsimp only);exact HQ.out _ (hF11.mono (fun _ _ t=>t.elim))
     clear hK K hHeld
     have hHeld:=hHeld2
     clear hHeld2
     try simp only [Act.put,List.setIfInBounds_toArray,List.set]
     refine wpAnyH_ready (rs:=[4,9]) (by kernel_rfl) (by simp) ?_
     refine arc (fun K hK=>?_) ?_
     ·skip
      go_simp
      have hF411:=hF11.alloc (.cells #[.int .i64 (tk k).T] 3)
      have hA411:((w4.drew.alloc (.cells #[.pointer (some ⟨zs,0,none⟩)] 94)).alloc (.cells #[.int .i64 (tk k).T] 3)).cell? ⟨(w4.heap.size + 1),0,none⟩ = some (.int .i64 (tk k).T):=cell_newb _ _ _ _ 0 _ (by first | rfl | simp) rfl
      have hB411:=cell_bel (bel_alloc (Below.refl (w4.drew.alloc (.cells #[.pointer (some ⟨zs,0,none⟩)] 94)).heap.size (w4.drew.alloc (.cells #[.pointer (some ⟨zs,0,none⟩)] 94))) (.cells #[.int .i64 (tk k).T] 3)) hB11
      refine hK.out _ _ ?hSe80 (fun hHeld2=>?hre80)
      case hSe80=>(try dsimp only);exact HQ.out _ (hF411.mono (fun _ _ t=>t.elim))
      clear hK K hHeld
      have hHeld:=hHeld2
      clear hHeld2
      try simp only [Act.put,List.setIfInBounds_toArray,List.set]
      refine wpAnyH_ready (rs:=[5,9]) (by kernel_rfl) (by simp) ?_
      refine arc (fun K hK=>?_) ?_
      ·skip
       refine step_append_lies _ (by rfl) _ _ _ (by rfl) w.heap.size 3 i3 _ 1 8 Tryz.underlying28 ki3 kz31 kz32 kz33 rfl (by omega) _ _ _ (by rfl) (own_fr2 HN4.out.ap hF411 (fun _ _ t=>t)) ⟨(w4.heap.size + 1),0,none⟩ 1 1 [.int .i64 (tk k).T] (by rfl) (by rfl) (fun j u hu=>by obtain ⟨rfl,rfl⟩:=one_of hu;rw [add_none];exact hA411) (by simp [Value.oneCell']) (by omega) (by unfold maxLen;omega) (by omega) (Nat.le_trans h4s hF411.size) _ rfl ?_
       intro gA cA wA hownA hgrA hatA hltA
       have hF4511:Fr (fun q=>u7.ownBlock = some q) w4 wA:=Fr.grown (hF411.mono (fun _ _ t=>t.elim)) hgrA (fun g e _=>e)
       have hC4511:=Fr.refl (fun _=>False) wA
       have hgA4:u7.ownBlock = some gA ∨ w4.heap.size ≤ gA:=hatA.imp id (fun e=>by rw [e];exact hF411.size)
       have hwA4:w4.heap.size ≤ wA.heap.size:=hF4511.size
       have hB4511:=hgrA.cell hB411 (fun e=>by have:=(HN4.out.lt _ (by rw [HN4.out.ca _ e.symm];omega)).2;have h9:w4.heap.size ≤ w4.heap.size:=hbBl;exact absurd h9 (Nat.not_le.2 this))
       refine hK.out _ _ ?hSe81 (fun hHeld2=>?hre81)
       case hSe81=>(try dsimp only);exact HQ.out _ (hF4511.mono (fun _ _ t=>.inl t))
       clear hK K hHeld
       have hHeld:=hHeld2
       clear hHeld2
       try simp only [Act.put,List.setIfInBounds_toArray,List.set]
       refine wpAnyH_ready (rs:=[9]) (by kernel_rfl) (by simp) ?_
       refine arc (fun K hK=>?_) AllReadyH.nil
       obtain ⟨hx7,hz7,hxl⟩:=HN4.out.pre (hF4511.mono (fun _ _ t=>.inl t))
       go_simp
       clear hx7 hz7 hxl
       refine hK.out _ _ ?hSe82 (fun hHeld2=>?hre82)
       case hSe82=>(try dsimp only);exact HQ.out _ (hF4511.mono (fun _ _ t=>.inl t))
       clear hK K hHeld
       have hHeld:=hHeld2
       clear hHeld2
       try simp only [Act.put,List.setIfInBounds_toArray,List.set]
       refine wpAnyH_ready (rs:=[12]) (by kernel_rfl) (by simp) ?_
       refine arc (fun K hK=>?_) AllReadyH.nil
       refine step_append_lies _ (by rfl) _ _ _ (by rfl) w.heap.size 94 i9 _ 1 8 Tryz.underlying90 ki9 kz91 kz92 kz93 rfl (by omega) _ _ _ (by rfl) (own_fr2 HN4.out.sr hF4511 HN4.out.apart) ⟨w4.heap.size,0,none⟩ 1 1 [.pointer (some ⟨zs,0,none⟩)] (by rfl) (by rfl) (fun j u hu=>by obtain ⟨rfl,rfl⟩:=one_of hu;rw [add_none];exact hB4511) (by simp [Value.oneCell']) (by omega) (by unfold maxLen;omega) (by omega) (Nat.le_trans h4s hF4511.size) _ rfl ?_
       intro gB cB wB hownB hgrB hatB hltB
       have hF4591112:Fr (fun q=>u7.ownBlock = some q ∨ sv.ownBlock = some q) w4 wB:=Fr.grown (hF4511.mono (fun _ _ t=>.inl t)) hgrB (fun g e _=>.inr e)
       have hAB:Fr (fun q=>sv.ownBlock = some q) wA wB:=Fr.grown (hC4511.mono (fun _ _ t=>t.elim)) hgrB (fun g e _=>e)
       have hgB4:sv.ownBlock = some gB ∨ wA.heap.size ≤ gB:=hatB.imp id (fun e=>by rw [e];exact hC4511.size)
       refine hK.out _ _ ?hSe83 (fun hHeld2=>?hre83)
       case hSe83=>(try dsimp only);exact HQ.out _ (hF4591112.mono (fun _ _ t=>t.imp id Or.inl))
       clear hK K hHeld
       have hHeld:=hHeld2
       clear hHeld2
       try simp only [Act.put,List.setIfInBounds_toArray,List.set]
       refine wtk (i:=13) ?_
       try simp only [Act.put,List.setIfInBounds_toArray,List.set]
       refine wtk (i:=14) ?_
       try simp only [Act.put,List.setIfInBounds_toArray,List.set]
       refine wtk (i:=15) ?_
       try simp only [Act.put,List.setIfInBounds_toArray,List.set]
       obtain ⟨hx7,hz7,hxl⟩:=HN4.out.pre hF4591112
       refine wpAnyH_ready (rs:=[16]) (by kernel_rfl) (by simp) ?_
       refine arc (fun K hK=>?_) AllReadyH.nil
       go_simp
       refine hK.out _ _ ?hSe87 (fun hHeld2=>?hre87)
       case hSe87=>(try dsimp only);exact HQ.out _ ((hF4591112.mono (T:=fun q=>u7.ownBlock = some q ∨ sv.ownBlock = some q ∨ q = x) (fun _ _ t=>t.imp id Or.inl)).setCell (p:=⟨x,7,none⟩) (.inr (.inr rfl)) _)
       clear hK K hHeld
       have hHeld:=hHeld2
       clear hHeld2
       try simp only [Act.put,List.setIfInBounds_toArray,List.set]
       refine wpAnyH_done (by kernel_rfl) ?_ _
       have HFIN:=Lib.hid (HNk.out.post hbw4 (by rw [hK,hm];exact HSK.out) (by rw [hK];exact HRL.out) ⟨Nat.le_trans (Nat.le_of_lt hszt) hn1,Nat.le_trans (Nat.le_of_lt hszt) hn2,Nat.le_trans (Nat.le_of_lt hszt) hn3,Nat.le_trans (Nat.le_of_lt hszt) hn4⟩ ⟨HSK.out.slt,HSK.out.wn.zlt,HSK.out.wn.rb.plt,HSK.out.wn.rb.qlt⟩ hF4591112 hownA hAB hownB hgA4 hgB4 hwA4)
       clear hHeld
       go_wp2_with fail
       go_roundw
       case rel=>exact ⟨k + 1,by omega,by simp,HFIN⟩
       case measure=>simp [intOf];omega
      refine arc (fun K hK=>?_) ?_
      ·skip
       obtain ⟨hx7,hz7,hxl⟩:=HN4.out.pre ((Fr.refl (fun _=>False) w4).mono (fun _ _ t=>t.elim))
       go_simp
       clear hx7 hz7 hxl
       refine hK.out _ _ ?hSe88 (fun hHeld2=>?hre88)
       case hSe88=>(try dsimp only);exact HQ.out _ (hF411.mono (fun _ _ t=>t.elim))
       clear hK K hHeld
       have hHeld:=hHeld2
       clear hHeld2
       try simp only [Act.put,List.setIfInBounds_toArray,List.set]
       refine wpAnyH_ready (rs:=[5]) (by kernel_rfl) (by simp) ?_
       refine arc (fun K hK=>?_) AllReadyH.nil
       refine step_append_lies _ (by rfl) _ _ _ (by rfl) w.heap.size 3 i3 _ 1 8 Tryz.underlying28 ki3 kz31 kz32 kz33 rfl (by omega) _ _ _ (by rfl) (own_fr2 HN4.out.ap hF411 (fun _ _ t=>t)) ⟨(w4.heap.size + 1),0,none⟩ 1 1 [.int .i64 (tk k).T] (by rfl) (by rfl) (fun j u hu=>by obtain ⟨rfl,rfl⟩:=one_of hu;rw [add_none];exact hA411) (by simp [Value.oneCell']) (by omega) (by unfold maxLen;omega) (by omega) (Nat.le_trans h4s hF411.size) _ rfl ?_
       intro gA cA wA hownA hgrA hatA hltA
       have hF45911:Fr (fun q=>u7.ownBlock = some q) w4 wA:=Fr.grown (hF411.mono (fun _ _ t=>t.elim)) hgrA (fun g e _=>e)
       have hC45911:=Fr.refl (fun _=>False) wA
       have hgA4:u7.ownBlock = some gA ∨ w4.heap.size ≤ gA:=hatA.imp id (fun e=>by rw [e];exact hF411.size)
       have hwA4:w4.heap.size ≤ wA.heap.size:=hF45911.size
       have hB45911:=hgrA.cell hB411 (fun e=>by have:=(HN4.out.lt _ (by rw [HN4.out.ca _ e.symm];omega)).2;have h9:w4.heap.size ≤ w4.heap.size:=hbBl;exact absurd h9 (Nat.not_le.2 this))
       refine hK.out _ _ ?hSe89 (fun hHeld2=>?hre89)
       case hSe89=>(try dsimp only);exact HQ.out _ (hF45911.mono (fun _ _ t=>.inl t))
       clear hK K hHeld
       have hHeld:=hHeld2
       clear hHeld2
       try simp only [Act.put,List.setIfInBounds_toArray,List.set]
       refine wpAnyH_ready (rs:=[12]) (by kernel_rfl) (by simp) ?_
       refine arc (fun K hK=>?_) AllReadyH.nil
       refine step_append_lies _ (by rfl) _ _ _ (by rfl) w.heap.size 94 i9 _ 1 8 Tryz.underlying90 ki9 kz91 kz92 kz93 rfl (by omega) _ _ _ (by rfl) (own_fr2 HN4.out.sr hF45911 HN4.out.apart) ⟨w4.heap.size,0,none⟩ 1 1 [.pointer (some ⟨zs,0,none⟩)] (by rfl) (by rfl) (fun j u hu=>by obtain ⟨rfl,rfl⟩:=one_of hu;rw [add_none];exact hB45911) (by simp [Value.oneCell']) (by omega) (by unfold maxLen;omega) (by omega) (Nat.le_trans h4s hF45911.size) _ rfl ?_
       intro gB cB wB hownB hgrB hatB hltB
       have hF4591112:Fr (fun q=>u7.ownBlock = some q ∨ sv.ownBlock = some q) w4 wB:=Fr.grown (hF45911.mono (fun _ _ t=>.inl t)) hgrB (fun g e _=>.inr e)
       have hAB:Fr (fun q=>sv.ownBlock = some q) wA wB:=Fr.grown (hC45911.mono (fun _ _ t=>t.elim)) hgrB (fun g e _=>e)
       have hgB4:sv.ownBlock = some gB ∨ wA.heap.size ≤ gB:=hatB.imp id (fun e=>by rw [e];exact hC45911.size)
       refine hK.out _ _ ?hSe90 (fun hHeld2=>?hre90)
       case hSe90=>(try dsimp only);exact HQ.out _ (hF4591112.mono (fun _ _ t=>t.imp id Or.inl))
       clear hK K hHeld
       have hHeld:=hHeld2
       clear hHeld2
       try simp only [Act.put,List.setIfInBounds_toArray,List.set]
       refine wtk (i:=13) ?_
       try simp only [Act.put,List.setIfInBounds_toArray,List.set]
       refine wtk (i:=14) ?_
       try simp only [Act.put,List.setIfInBounds_toArray,List.set]
       refine wtk (i:=15) ?_
       try simp only [Act.put,List.setIfInBounds_toArray,List.set]
       obtain ⟨hx7,hz7,hxl⟩:=HN4.out.pre hF4591112
       refine wpAnyH_ready (rs:=[16]) (by kernel_rfl) (by simp) ?_
       refine arc (fun K hK=>?_) AllReadyH.nil
       go_simp
       refine hK.out _ _ ?hSe94 (fun hHeld2=>?hre94)
       case hSe94=>(try dsimp only);exact HQ.out _ ((hF4591112.mono (T:=fun q=>u7.ownBlock = some q ∨ sv.ownBlock = some q ∨ q = x) (fun _ _ t=>t.imp id Or.inl)).setCell (p:=⟨x,7,none⟩) (.inr (.inr rfl)) _)
       clear hK K hHeld
       have hHeld:=hHeld2
       clear hHeld2
       try simp only [Act.put,List.setIfInBounds_toArray,List.set]
       refine wpAnyH_done (by kernel_rfl) ?_ _
       have HFIN:=Lib.hid (HNk.out.post hbw4 (by rw [hK,hm];exact HSK.out) (by rw [hK];exact HRL.out) ⟨Nat.le_trans (Nat.le_of_lt hszt) hn1,Nat.le_trans (Nat.le_of_lt hszt) hn2,Nat.le_trans (Nat.le_of_lt hszt) hn3,Nat.le_trans (Nat.le_of_lt hszt) hn4⟩ ⟨HSK.out.slt,HSK.out.wn.zlt,HSK.out.wn.rb.plt,HSK.out.wn.rb.qlt⟩ hF4591112 hownA hAB hownB hgA4 hgB4 hwA4)
       clear hHeld
       go_wp2_with fail
       go_roundw
       case rel=>exact ⟨k + 1,by omega,by simp,HFIN⟩
       case measure=>simp [intOf];omega
      exact AllReadyH.nil
     refine arc (fun K hK=>?_) ?_
     ·skip
      obtain ⟨hx7,hz7,hxl⟩:=HN4.out.pre ((Fr.refl (fun _=>False) w4).mono (fun _ _ t=>t.elim))
      go_simp
      clear hx7 hz7 hxl
      refine hK.out _ _ ?hSe95 (fun hHeld2=>?hre95)
      case hSe95=>(try dsimp only);exact HQ.out _ (hF11.mono (fun _ _ t=>t.elim))
      clear hK K hHeld
      have hHeld:=hHeld2
      clear hHeld2
      try simp only [Act.put,List.setIfInBounds_toArray,List.set]
      refine wpAnyH_ready (rs:=[4]) (by kernel_rfl) (by simp) ?_
      refine arc (fun K hK=>?_) AllReadyH.nil
      go_simp
      have hF4911:=hF11.alloc (.cells #[.int .i64 (tk k).T] 3)
      have hA4911:((w4.drew.alloc (.cells #[.pointer (some ⟨zs,0,none⟩)] 94)).alloc (.cells #[.int .i64 (tk k).T] 3)).cell? ⟨(w4.heap.size + 1),0,none⟩ = some (.int .i64 (tk k).T):=cell_newb _ _ _ _ 0 _ (by first | rfl | simp) rfl
      have hB4911:=cell_bel (bel_alloc (Below.refl (w4.drew.alloc (.cells #[.pointer (some ⟨zs,0,none⟩)] 94)).heap.size (w4.drew.alloc (.cells #[.pointer (some ⟨zs,0,none⟩)] 94))) (.cells #[.int .i64 (tk k).T] 3)) hB11
      refine hK.out _ _ ?hSe96 (fun hHeld2=>?hre96)
      case hSe96=>(try dsimp only);exact HQ.out _ (hF4911.mono (fun _ _ t=>t.elim))
      clear hK K hHeld
      have hHeld:=hHeld2
      clear hHeld2
      try simp only [Act.put,List.setIfInBounds_toArray,List.set]
      refine wpAnyH_ready (rs:=[5]) (by kernel_rfl) (by simp) ?_
      refine arc (fun K hK=>?_) AllReadyH.nil
      refine step_append_lies _ (by rfl) _ _ _ (by rfl) w.heap.size 3 i3 _ 1 8 Tryz.underlying28 ki3 kz31 kz32 kz33 rfl (by omega) _ _ _ (by rfl) (own_fr2 HN4.out.ap hF4911 (fun _ _ t=>t)) ⟨(w4.heap.size + 1),0,none⟩ 1 1 [.int .i64 (tk k).T] (by rfl) (by rfl) (fun j u hu=>by obtain ⟨rfl,rfl⟩:=one_of hu;rw [add_none];exact hA4911) (by simp [Value.oneCell']) (by omega) (by unfold maxLen;omega) (by omega) (Nat.le_trans h4s hF4911.size) _ rfl ?_
      intro gA cA wA hownA hgrA hatA hltA
      have hF45911:Fr (fun q=>u7.ownBlock = some q) w4 wA:=Fr.grown (hF4911.mono (fun _ _ t=>t.elim)) hgrA (fun g e _=>e)
      have hC45911:=Fr.refl (fun _=>False) wA
      have hgA4:u7.ownBlock = some gA ∨ w4.heap.size ≤ gA:=hatA.imp id (fun e=>by rw [e];exact hF4911.size)
      have hwA4:w4.heap.size ≤ wA.heap.size:=hF45911.size
      have hB45911:=hgrA.cell hB4911 (fun e=>by have:=(HN4.out.lt _ (by rw [HN4.out.ca _ e.symm];omega)).2;have h9:w4.heap.size ≤ w4.heap.size:=hbBl;exact absurd h9 (Nat.not_le.2 this))
      refine hK.out _ _ ?hSe97 (fun hHeld2=>?hre97)
      case hSe97=>(try dsimp only);exact HQ.out _ (hF45911.mono (fun _ _ t=>.inl t))
      clear hK K hHeld
      have hHeld:=hHeld2
      clear hHeld2
      try simp only [Act.put,List.setIfInBounds_toArray,List.set]
      refine wpAnyH_ready (rs:=[12]) (by kernel_rfl) (by simp) ?_
      refine arc (fun K hK=>?_) AllReadyH.nil
      refine step_append_lies _ (by rfl) _ _ _ (by rfl) w.heap.size 94 i9 _ 1 8 Tryz.underlying90 ki9 kz91 kz92 kz93 rfl (by omega) _ _ _ (by rfl) (own_fr2 HN4.out.sr hF45911 HN4.out.apart) ⟨w4.heap.size,0,none⟩ 1 1 [.pointer (some ⟨zs,0,none⟩)] (by rfl) (by rfl) (fun j u hu=>by obtain ⟨rfl,rfl⟩:=one_of hu;rw [add_none];exact hB45911) (by simp [Value.oneCell']) (by omega) (by unfold maxLen;omega) (by omega) (Nat.le_trans h4s hF45911.size) _ rfl ?_
      intro gB cB wB hownB hgrB hatB hltB
      have hF4591112:Fr (fun q=>u7.ownBlock = some q ∨ sv.ownBlock = some q) w4 wB:=Fr.grown (hF45911.mono (fun _ _ t=>.inl t)) hgrB (fun g e _=>.inr e)
      have hAB:Fr (fun q=>sv.ownBlock = some q) wA wB:=Fr.grown (hC45911.mono (fun _ _ t=>t.elim)) hgrB (fun g e _=>e)
      have hgB4:sv.ownBlock = some gB ∨ wA.heap.size ≤ gB:=hatB.imp id (fun e=>by rw [e];exact hC45911.size)
      refine hK.out _ _ ?hSe98 (fun hHeld2=>?hre98)
      case hSe98=>(try dsimp only);exact HQ.out _ (hF4591112.mono (fun _ _ t=>t.imp id Or.inl))
      clear hK K hHeld
      have hHeld:=hHeld2
      clear hHeld2
      try simp only [Act.put,List.setIfInBounds_toArray,List.set]
      refine wtk (i:=13) ?_
      try simp only [Act.put,List.setIfInBounds_toArray,List.set]
      refine wtk (i:=14) ?_
      try simp only [Act.put,List.setIfInBounds_toArray,List.set]
      refine wtk (i:=15) ?_
      try simp only [Act.put,List.setIfInBounds_toArray,List.set]
      obtain ⟨hx7,hz7,hxl⟩:=HN4.out.pre hF4591112
      refine wpAnyH_ready (rs:=[16]) (by kernel_rfl) (by simp) ?_
      refine arc (fun K hK=>?_) AllReadyH.nil
      go_simp
      refine hK.out _ _ ?hSe102 (fun hHeld2=>?hre102)
      case hSe102=>(try dsimp only);exact HQ.out _ ((hF4591112.mono (T:=fun q=>u7.ownBlock = some q ∨ sv.ownBlock = some q ∨ q = x) (fun _ _ t=>t.imp id Or.inl)).setCell (p:=⟨x,7,none⟩) (.inr (.inr rfl)) _)
      clear hK K hHeld
      have hHeld:=hHeld2
      clear hHeld2
      try simp only [Act.put,List.setIfInBounds_toArray,List.set]
      refine wpAnyH_done (by kernel_rfl) ?_ _
      have HFIN:=Lib.hid (HNk.out.post hbw4 (by rw [hK,hm];exact HSK.out) (by rw [hK];exact HRL.out) ⟨Nat.le_trans (Nat.le_of_lt hszt) hn1,Nat.le_trans (Nat.le_of_lt hszt) hn2,Nat.le_trans (Nat.le_of_lt hszt) hn3,Nat.le_trans (Nat.le_of_lt hszt) hn4⟩ ⟨HSK.out.slt,HSK.out.wn.zlt,HSK.out.wn.rb.plt,HSK.out.wn.rb.qlt⟩ hF4591112 hownA hAB hownB hgA4 hgB4 hwA4)
      clear hHeld
      go_wp2_with fail
      go_roundw
      case rel=>exact ⟨k + 1,by omega,by simp,HFIN⟩
      case measure=>simp [intOf];omega
     exact AllReadyH.nil
    exact AllReadyH.nil
   ·have hkn:k = n:=by omega
    subst hkn
    have hdl:decide ((k:Int) < (k:Int)) = false:=decide_eq_false (by omega)
    have hok:=HS.out.ok
    obtain ⟨ga,ca,hav,hints⟩:=HNk.out.ints hn0
    subst hav
    have hbe:=bel_alloc (Below.refl wr.heap.size wr) (.cells #[.int .i64 0,.int .i64 0,.int .i64 0] 97)
    have hG:=Lib.hid (new_good wr.heap.size (some ⟨ga,0,none⟩) k ca (Ts tk k) (wr.alloc (.cells #[.int .i64 0,.int .i64 0,.int .i64 0] 97)) (hints.keep hbe) (by omega) (Ts_good tk k (by omega) hn16 hok) hbe.size)
    have HM:=Lib.hid (fun W (hW:w.heap.size ≤ W.heap.size)=>hnew_m w.heap.size k W (by omega) (by omega) hW)
    have HT:=Lib.hid (fun W=>tnew_good 64 W (by omega) (by omega))
    have hcx:x < wr.heap.size:=(HNk.out.lt x (by rw [HNk.out.cx];omega)).2
    have hwx:w.heap.size ≤ x:=(HNk.out.lt x (by rw [HNk.out.cx];omega)).1
    have hnx:¬ w.heap.size = x:=fun e=>by have h1:=HNk.out.bc;have h2:=HNk.out.cx;rw [e,h2] at h1;omega
    have hnx2:¬ x = w.heap.size:=fun e=>hnx e.symm
    have hw0:=HNk.out.sz0
    have hxe:¬ x = wr.heap.size:=by omega
    have hwe:¬ w.heap.size = wr.heap.size:=by omega
    clear hints HX0
    have heq:=eq97
    have P0:=Lib.hid (XP.start hcx HNk.out.fz)
    have h36s:wr.heap.size < (wr.alloc (.cells #[.int .i64 0,.int .i64 0,.int .i64 0] 97)).heap.size:=one_lt wr (.cells #[.int .i64 0,.int .i64 0,.int .i64 0] 97)
    go_wp2_with (first | (go_at_call 36;refine hG.out.mono ?_;rintro e w5 ⟨⟨gp,gq,gc,rfl,hgu,hg1,hg2⟩,hb5⟩;have P5:=Lib.hid (P0.out.below hb5);have x6:=(P5.out.xc 6).trans HNk.out.f6;have z6:=P5.out.xz 6;have e0:=P5.out.ec 0 (by omega);have ez:=P5.out.ez 0;have hxl5:x < w5.heap.size:=block_lt x6;have hel5:wr.heap.size < w5.heap.size:=P5.out.el.2;have b51:=cell_bel hb5 (cell_bel hbe HNk.out.b1);have P6:=Lib.hid (P5.out.two 6 0 (.pointer (some ⟨gp,0,none⟩)) (by omega) x6);have HGU:=Lib.hid hgu;have HB5:=Lib.hid hb5;clear hG hgu hb5) | (go_at_call 37;refine (HM.out _ (by have h1:=P6.out.fr.size;omega)).mono ?_;rintro e w7 ⟨⟨hp,F,rfl,hhp,hF⟩,hb7⟩;have P7:=Lib.hid (P6.out.below hb7);have x57:=P7.out.xc 5;simp at x57;rw [HNk.out.f5] at x57;have z57:=P7.out.xz 5;have e17:=P7.out.ec 1 (by omega);have ez17:=P7.out.ez 1;have hxl7:x < w7.heap.size:=block_lt x57;have hel7:wr.heap.size < w7.heap.size:=P7.out.el.2;have P8:=Lib.hid (P7.out.two 5 1 (.pointer (some ⟨hp,0,none⟩)) (by omega) x57);have HHP:=Lib.hid hhp;have HB7:=Lib.hid hb7;have HF7:=Lib.hid hF;clear HM hhp hb7 hF x6 z6 e0 ez b51 hxl5 hel5) | (go_at_call 38;refine (HT.out _).mono ?_;rintro e w9 ⟨⟨ty,tp,tq,tf,tm,ef,tff,rfl,hta,ht1,ht2,ht3⟩,hb9⟩;have P9:=Lib.hid (P8.out.below hb9);have x89:=P9.out.xc 8;simp at x89;rw [HNk.out.f8] at x89;have z89:=P9.out.xz 8;have e29:=P9.out.ec 2 (by omega);have e09:=P9.out.ec 0 (by omega);have e19:=P9.out.ec 1 (by omega);have ez29:=P9.out.ez 2;have hxl9:x < w9.heap.size:=block_lt x89;have hel9:wr.heap.size < w9.heap.size:=P9.out.el.2;have P10:=Lib.hid (P9.out.two 8 2 (.pointer (some ⟨ty,0,none⟩)) (by omega) x89);have HTA:=Lib.hid hta;have HB9:=Lib.hid hb9;clear HT hta hb9 x57 z57 e17 ez17 hxl7 hel7))
    have G5:=(P6.out.fr.size:wr.heap.size ≤ _)
    have hsz6:=two_size w5 ⟨x,6,none⟩ ⟨wr.heap.size,0,none⟩ (.pointer (some ⟨gp,0,none⟩)) (.int .i64 0)
    have hsz8:=two_size w7 ⟨x,5,none⟩ ⟨wr.heap.size,1,none⟩ (.pointer (some ⟨hp,0,none⟩)) (.int .i64 0)
    have F56:=fr_then (two_fr w5 x wr.heap.size 6 0 (.pointer (some ⟨gp,0,none⟩)) (.int .i64 0)) HB7.out
    have F78:=fr_then (two_fr w7 x wr.heap.size 5 1 (.pointer (some ⟨hp,0,none⟩)) (.int .i64 0)) HB9.out
    have F9:=two_fr w9 x wr.heap.size 8 2 (.pointer (some ⟨ty,0,none⟩)) (.int .i64 0)
    have ngp:∀ q,(wr.alloc (.cells #[.int .i64 0,.int .i64 0,.int .i64 0] 97)).heap.size ≤ q → ¬ (q = x ∨ q = wr.heap.size):=fun q hq t=>by rcases t with t | t <;> omega
    have hle5:=HB5.out.size
    have h6:=HB7.out.size
    have h8:=HB9.out.size
    have hFW:=Lib.hid (HNk.out.fin HS.out P10.out.fr (fun o h5 h6 h8=>by have t:=P10.out.xc o;simp [h5,h6,h8] at t;exact t) P10.out.xz (by have t:=P10.out.xc 5;simpa using t) (by have t:=P10.out.xc 6;simpa using t) (by have t:=P10.out.xc 8;simpa using t)
     (HGU.out.keep (fr_and (fr_and F56 F78) F9) (ngp gp hg1) (ngp gq hg2)) (HHP.out.keep (fr_and F78 F9) (fun q hq=>ngp q (by have:=HF7.out q hq;omega)))
     ⟨tf,tm,ef,tff,HTA.out.keep F9 (ngp ty (by omega)) (ngp tp (by omega)) (ngp tq (by omega))⟩ w5.heap.size w7.heap.size ⟨by omega,by omega⟩ ⟨HGU.out.p1,HGU.out.q1⟩ (fun q hq=>⟨by have:=HF7.out q hq;omega,(HHP.out.flt q hq).1⟩) ⟨by omega,by omega,by omega⟩ (by omega))
    go_ret2
    obtain ⟨A,col',jbk,gs,hAx,hXW,hc0⟩:=hFW.out
    exact ⟨A,col',F,jbk,gs,by rw [hAx];rfl,hXW,fr_bel HNk.out.bel P10.out.fr (fun q t=>by rw [t];exact hwx),hc0⟩
end
end Go.Proofs.YtnoahekcemfmcaaGreatDoor
