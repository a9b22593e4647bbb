/- A part of the walk: Xh. -/
import Derived.Test.YtnoahekcemfmcaaGreatDoorR23
namespace Go.Proofs.YtnoahekcemfmcaaGreatDoor
set_option linter.unusedVariables false
set_option linter.unusedSimpArgs false
set_option maxHeartbeats 80000000
set_option maxRecDepth 100000
section
open Go.RowKit
theorem nodup_len:∀ (n:Nat) (L:List Int),L.Nodup → (∀ x ∈ L,0 ≤ x ∧ x < (n:Int)) → L.length ≤ n
 | 0,L,_,h=>by
  cases L with
  | nil=>exact Nat.le_refl _
  | cons x r=>have:=h x List.mem_cons_self;omega
 | n + 1,L,hd,h=>by
  by_cases hm:(n:Int) ∈ L
  ·have h1:=nodup_len n (L.erase (n:Int)) (hd.erase _) (fun x hx=>by
    have:=(hd.mem_erase_iff).1 hx
    have:=h x this.2
    omega)
   rw [List.length_erase_of_mem hm] at h1
   omega
  ·have h1:=nodup_len n L hd (fun x hx=>by
    have:=h x hx
    have hne:x ≠ (n:Int):=fun e=>hm (e ▸ hx)
    omega)
   omega
section
variable {B n:Nat} {A:XFix} {bu:Int} {tk:Nat → Tk} {w w':World} {s:St} {out:List Ev} {Mx:Nat} {col:Nat → Nat} {F:Nat → Prop} {hm:List Q} {so:Value} {jbk:Nat → Nat} {gs:List Gate} {kj:Nat → Option Jb} {T:Nat → Prop}
theorem newJ_fine {i:Nat} {d:Int} {m:Bool} (ht:(tk i).Ok):JbOk (tk i) (newJ tk s i d m) ∧ 0 ≤ (newJ tk s i d m).fails ∧ (newJ tk s i d m).fails ≤ Mx ∧ (newJ tk s i d m).left ≤ 2147483648 ∧ (newJ tk s i d m).rel ≤ s.now:=by
 refine ⟨newJ_ok ht,Int.le_refl _,?_,?_,Nat.le_refl _⟩
 ·show (0:Int) ≤ (Mx:Int);omega
 ·show plen (tk i) (cut (tk i) d) 0 ≤ 2147483648
  have h1:=(cut_ok (tk i) ht d).2
  have h2:=ht.cd
  have h3:=ht.dt
  have h4:=ht.tm
  have h5:=ht.k1
  unfold plen
  split
  ·rename_i hm
   have:=(ht.r1 hm).2.1
   omega
  ·omega
theorem push_new (h:XW B A bu n tk w s out Mx col F hm so jbk gs s.job) {i:Nat} (hi:i < n) (hn:s.job i = none) (J:Jb):pushM n hm (keyJ tk i J) = (0,insK (keyJ tk i J) hm) ∧ ∀ q,q ∈ insK (keyJ tk i J) hm ↔ q = keyJ tk i J ∨ q ∈ hm:=by
 have hid:∀ q ∈ hm,q.2.2.2 ≠ (i:Int) ∧ 0 ≤ q.2.2.2 ∧ q.2.2.2 < (n:Int):=fun q hq=>by
  obtain ⟨k,K,hk,e,rfl⟩:=(h.hk q).1 hq
  refine ⟨fun e'=>?_,?_,?_⟩
  ·have:k = i:=by simp [keyJ] at e';omega
   subst this;rw [hn] at e;cases e
  ·show (0:Int) ≤ (k:Int);omega
  ·show (k:Int) < (n:Int);omega
 have hany:(hm.any fun x=>x.2.2.2 == (keyJ tk i J).2.2.2) = false:=by
  rw [List.any_eq_false]
  intro q hq
  have:=(hid q hq).1
  simp [keyJ];omega
 have hlen:hm.length + 1 ≤ n:=by
  have h1:=nodup_len n ((i:Int) :: hm.map (·.2.2.2)) (List.nodup_cons.2 ⟨fun hx=>by
   obtain ⟨q,hq,e⟩:=List.mem_map.1 hx
   exact (hid q hq).1 e,h.hp.ids⟩) (fun x hx=>by
   rcases List.mem_cons.1 hx with rfl | hx
   ·omega
   ·obtain ⟨q,hq,rfl⟩:=List.mem_map.1 hx
    exact (hid q hq).2)
  simpa using h1
 refine ⟨?_,fun q=>by rw [(insK_perm _ _).mem_iff,List.mem_cons]⟩
 unfold pushM
 rw [if_neg (by rw [hany];simp),if_neg (by omega)]
theorem rel_good (h:XW B A bu n tk w s out Mx col F hm so jbk gs s.job) (i:Nat) (d:Int) (hi:i < n) (hoe:s.opn i ≤ (s.now:Int)) (hcl:s.job i = none) (hc0:0 ≤ s.cnt i) (ho:out.length ≤ 100000000) (hMx:Mx < 1000000) :
  Calls Tryz.prog 40 #[.pointer (some ⟨A.x,0,none⟩),.agg #[.int .i64 i,.int .i64 d]] w fun e w'=>e = .returned (.tuple #[]) ∧ ∃ m,(m = false → (tk i).M ≤ cntT ((s.win i).drop 1)) ∧ ∃ col' so' F' hm' jbk' gs',XW B A bu n tk w' (relS tk s i d m) (out ++ [tell tk s 1 i (newJ tk s i d m)]) (Mx + 1) col' F' hm' so' jbk' gs' (relS tk s i d m).job ∧ XR col w col' w':=by
 have hb:=bel_alloc (Below.refl w.heap.size w) (.cells #[.int .i64 i,.int .i64 d] 79)
 have hW0:=h.below hb
 have hW:=Lib.hid hW0
 have HH:=Lib.hid (hasx_any (A:=A) (n:=n) (i:Int) hW0.f.f1)
 have hd:decide (0 ≤ (i:Int) ∧ (i:Int) < (n:Int)) = true:=decide_eq_true (by omega)
 have HR:=Lib.hid (XR.of_below (col:=col) hb)
 rw [hd] at HH
 have hig:i < gs.length:=by rw [h.gl];exact hi
 have HC:=Lib.hid (count_is hW0.g (count_at hig))
 have hga:=h.ga i hig
 rw [hga.2.2] at HC
 have HG:=Lib.hid (fun W (hg:GuardAt W A.gp A.gq A.gc Mx gs)=>go_is (go_good hig (by omega) (by have:=h.no;omega) (by rw [hga.2.1];exact hoe)) hg (by omega) (t:=(s.now:Int)))
 have f6:=hW0.f.f6
 have f2:=hW0.f.f2
 have hn16:=h.c.n16
 have b0:=cell_newb w #[.int .i64 (i:Int),.int .i64 d] 79 _ 0 _ rfl rfl
 have b1:=cell_newb w #[.int .i64 (i:Int),.int .i64 d] 79 _ 1 _ rfl rfl
 have hwbl:w.heap.size < (w.alloc (.cells #[.int .i64 (i:Int),.int .i64 d] 79)).heap.size:=by simp
 have HBx:B ≤ w.heap.size:=by have:=h.c.lt _ (show col A.x ≠ 0 by rw [h.c.x];omega);omega
 have hcol0:Hid (∀ k,w.heap.size ≤ k → col k = 0):=fun k hk=>by
  by_cases e:col k = 0
  ·exact e
  ·have:=(h.c.lt _ e).2;omega
 clear h hb hd hW0 hga
 go_enter Tryz.func40,Tryz.ntmps40
 go_wp2_with (first | (go_at_call 61;refine HH.out.mono ?_;rintro e w1 ⟨rfl,rfl⟩) | (go_at_call 62;refine HC.out.mono ?_;rintro e w2 ⟨rfl,rfl⟩))
 generalize w.alloc (.cells #[.int .i64 (i:Int),.int .i64 d] 79) = w1 at *
 have HD1:=hW.out.keep (T:=fun _=>False) ((Fr.refl _ w1).drew) (fun _ h=>h.elim)
 refine wp_region_held_drew (S:=(fun w'=>w'.cell? ⟨A.x,6,none⟩ = some (.pointer (some ⟨A.gp,0,none⟩)) ∧ w'.cell? ⟨A.x,2,none⟩ = some (.int .i64 s.now))) (by kernel_rfl) ?hS0g (fun hHeld=>?_)
 case hS0g=>(try dsimp only);exact ⟨HD1.f.f6,HD1.f.f2⟩
 refine wtk (i:=0) ?_
 try simp only [Act.put,List.setIfInBounds_toArray,List.set]
 refine wtk (i:=1) ?_
 try simp only [Act.put,List.setIfInBounds_toArray,List.set]
 refine wtk (i:=2) ?_
 try simp only [Act.put,List.setIfInBounds_toArray,List.set]
 refine wtk (i:=3) ?_
 try simp only [Act.put,List.setIfInBounds_toArray,List.set]
 refine wtk (i:=4) ?_
 try simp only [Act.put,List.setIfInBounds_toArray,List.set]
 refine wtk (i:=5) ?_
 try simp only [Act.put,List.setIfInBounds_toArray,List.set]
 refine wtk (i:=6) ?_
 try simp only [Act.put,List.setIfInBounds_toArray,List.set]
 refine wtk (i:=7) ?_
 try simp only [Act.put,List.setIfInBounds_toArray,List.set]
 refine wtk (i:=8) ?_
 try simp only [Act.put,List.setIfInBounds_toArray,List.set]
 refine wpAnyH_ready (rs:=[9]) (by kernel_rfl) (by simp) ?_
 refine arc (fun K hK=>?_) AllReadyH.nil
 go_simp;go_at_call 63;refine Calls.mono (HG.out _ HD1.g) ?_;rintro e w3 ⟨rfl,hg3,hf3⟩;obtain ⟨HW3,HR3⟩:=HD1.guard2 hMx hig hf3 hg3
 refine hK.out _ _ ?hSg10 (fun hHeld2=>?hrg10)
 case hSg10=>(try dsimp only);exact ⟨HW3.f.f6,HW3.f.f2⟩
 clear hK K hHeld
 have hHeld:=hHeld2
 clear hHeld2
 try simp only [Act.put,List.setIfInBounds_toArray,List.set]
 refine wtk (i:=10) ?_
 try simp only [Act.put,List.setIfInBounds_toArray,List.set]
 refine wpAnyH_done (by kernel_rfl) ?_ _
 have HW3':=Lib.hid HW3
 have HR3':=Lib.hid ((HR.out.trans (XR.of_fr (T:=fun _=>False) ((Fr.refl _ w1).drew) (fun _ h=>h.elim))).trans HR3)
 have c1:w3.cell? ⟨w.heap.size,1,none⟩ = some (.int .i64 d):=by
  have e1:w1.drew.cell? ⟨w.heap.size,1,none⟩ = some (.int .i64 d):=b1
  exact (hf3.cell (p:=⟨w.heap.size,1,none⟩) hwbl (fun (e:w.heap.size = A.gq)=>col_ne (hcol0.out _ (Nat.le_refl _)) hW.out.c.g.2 (by omega) e)).trans e1
 have hwl3:w.heap.size < w3.heap.size:=block_lt c1
 clear HW3 HR3 HD1 hHeld hg3 hf3 f6 f2 b0 b1 HG HC HH HR hwbl
 go_wp2_with fail
 have HQ6:Hid (∀ w',Below w3.heap.size w3 w' → w'.cell? ⟨A.x,0,none⟩ = some (.int .i64 bu) ∧ w'.cell? ⟨A.x,1,none⟩ = some (.slice (some ⟨A.tb,0,none⟩) n A.tc) ∧ w'.cell? ⟨A.x,2,none⟩ = some (.int .i64 s.now) ∧ w'.cell? ⟨w.heap.size,1,none⟩ = some (.int .i64 d) ∧ w'.cell? ⟨A.x,7,none⟩ = some (.slice (some ⟨A.sb,0,none⟩) n A.sc) ∧ w'.cell? ⟨A.sb,i,none⟩ = some (.pointer (some ⟨A.sk i,0,none⟩)) ∧ Below w3.heap.size w3 w'):=fun W hb=>by
  have X:=HW3'.out.below hb
  exact ⟨X.f.f0,X.f.f1,X.f.f2,(hb.cell (p:=⟨w.heap.size,1,none⟩) hwl3).trans c1,X.f.f7,X.sk.row i hi,hb⟩
 have HM:Hid (∀ W,Below w3.heap.size w3 W → Calls Tryz.prog 66 #[.pointer (some ⟨A.sk i,0,none⟩)] W fun e w'=>(∃ b:Bool,e = .returned (.bool b) ∧ (b = false → (tk i).M ≤ cntT ((s.win i).drop 1))) ∧ Below W.heap.size W w'):=fun W hb=>by
  have X:=HW3'.out.below hb
  obtain ⟨f,j,cf,a,b,c⟩:=X.sk.sk i hi
  have hmx:=X.mx
  have hok:=X.ok i hi
  refine (smust_is a (by omega)).mono ?_
  rintro e w' ⟨⟨m,rfl,hm⟩,hb'⟩
  refine ⟨⟨m,rfl,fun hf=>?_⟩,hb'⟩
  rw [b] at hm
  rcases hm with hm | hm
  ·rw [hf] at hm;cases hm
  ·have h1:=hok.f1
   have e1:(((tk i).M.toNat:Nat):Int) = (tk i).M:=by omega
   rw [e1] at hm;exact hm
 have HN:Hid (∀ W (m:Bool),Below w3.heap.size w3 W → Calls Tryz.prog 65 #[.agg #[.int .i64 bu,.slice (some ⟨A.tb,0,none⟩) n A.tc],.int .i64 i,.int .i64 (s.cnt i),.int .i64 s.now,.int .i64 d,.bool m] W fun e w'=>e = .returned (.tuple #[.agg (jbc i (tk i) (newJ tk s i d m)).toArray,.int .i64 0]) ∧ Below W.heap.size W w'):=fun W m hb=>by
  have X:=HW3'.out.below hb
  have hT:TksIn W.heap.size W (some ⟨A.tb,0,none⟩) n tk:=fun _=>⟨A.tb,0,rfl,(X.c.lt _ (by rw [X.c.tb];omega)).2,fun j hj=>by rw [Nat.zero_add];exact X.tsk j hj⟩
  exact jnew_is W.heap.size bu _ n A.tc tk i (s.cnt i) s.now d m W hT (Nat.le_refl _) hi hn16 (X.ok i hi) hc0 X.no
 refine wp_region_held_drew (S:=(fun w'=>w'.cell? ⟨A.x,0,none⟩ = some (.int .i64 bu) ∧ w'.cell? ⟨A.x,1,none⟩ = some (.slice (some ⟨A.tb,0,none⟩) n A.tc) ∧ w'.cell? ⟨A.x,2,none⟩ = some (.int .i64 s.now) ∧ w'.cell? ⟨w.heap.size,1,none⟩ = some (.int .i64 d) ∧ w'.cell? ⟨A.x,7,none⟩ = some (.slice (some ⟨A.sb,0,none⟩) n A.sc) ∧ w'.cell? ⟨A.sb,i,none⟩ = some (.pointer (some ⟨A.sk i,0,none⟩)) ∧ Below w3.heap.size w3 w')) (by kernel_rfl) ?hS0p (fun hHeld=>?_)
 case hS0p=>(try dsimp only);exact HQ6.out _ (bel_drew (Below.refl _ _))
 refine wtk (i:=0) ?_
 try simp only [Act.put,List.setIfInBounds_toArray,List.set]
 refine wtk (i:=1) ?_
 try simp only [Act.put,List.setIfInBounds_toArray,List.set]
 refine wtk (i:=2) ?_
 try simp only [Act.put,List.setIfInBounds_toArray,List.set]
 refine wtk (i:=3) ?_
 try simp only [Act.put,List.setIfInBounds_toArray,List.set]
 refine wtk (i:=4) ?_
 try simp only [Act.put,List.setIfInBounds_toArray,List.set]
 refine wtk (i:=5) ?_
 try simp only [Act.put,List.setIfInBounds_toArray,List.set]
 refine wtk (i:=6) ?_
 try simp only [Act.put,List.setIfInBounds_toArray,List.set]
 refine wtk (i:=7) ?_
 try simp only [Act.put,List.setIfInBounds_toArray,List.set]
 refine wtk (i:=8) ?_
 try simp only [Act.put,List.setIfInBounds_toArray,List.set]
 refine wtk (i:=9) ?_
 try simp only [Act.put,List.setIfInBounds_toArray,List.set]
 refine wtk (i:=10) ?_
 try simp only [Act.put,List.setIfInBounds_toArray,List.set]
 refine wtk (i:=11) ?_
 try simp only [Act.put,List.setIfInBounds_toArray,List.set]
 refine wtk (i:=12) ?_
 try simp only [Act.put,List.setIfInBounds_toArray,List.set]
 refine wtk (i:=13) ?_
 try simp only [Act.put,List.setIfInBounds_toArray,List.set]
 refine wtk (i:=14) ?_
 try simp only [Act.put,List.setIfInBounds_toArray,List.set]
 refine wtk (i:=15) ?_
 try simp only [Act.put,List.setIfInBounds_toArray,List.set]
 refine wtk (i:=16) ?_
 try simp only [Act.put,List.setIfInBounds_toArray,List.set]
 refine wtk (i:=17) ?_
 try simp only [Act.put,List.setIfInBounds_toArray,List.set]
 refine wtk (i:=18) ?_
 try simp only [Act.put,List.setIfInBounds_toArray,List.set]
 refine wpAnyH_ready (rs:=[19,24]) (by kernel_rfl) (by simp) ?_
 refine arc (fun K hK=>?_) ?_
 ·skip
  go_simp;go_at_call 66;refine Calls.mono (HM.out _ hHeld.2.2.2.2.2.2) ?_;rintro e w5 ⟨⟨m,rfl,hm⟩,hb5⟩;have HB5:=hHeld.2.2.2.2.2.2.trans (hb5.mono hHeld.2.2.2.2.2.2.size)
  refine hK.out _ _ ?hSp20 (fun hHeld2=>?hrp20)
  case hSp20=>(try dsimp only);exact HQ6.out _ HB5
  clear hK K hHeld
  have hHeld:=hHeld2
  clear hHeld2
  try simp only [Act.put,List.setIfInBounds_toArray,List.set]
  refine wpAnyH_ready (rs:=[20,24]) (by kernel_rfl) (by simp) ?_
  refine arc (fun K hK=>?_) ?_
  ·skip
   go_simp;go_at_call 65;refine Calls.mono (HN.out _ m hHeld.2.2.2.2.2.2) ?_;rintro e w6 ⟨rfl,hb6⟩;have HB6:=hHeld.2.2.2.2.2.2.trans (hb6.mono hHeld.2.2.2.2.2.2.size)
   refine hK.out _ _ ?hSp21 (fun hHeld2=>?hrp21)
   case hSp21=>(try dsimp only);exact HQ6.out _ HB6
   clear hK K hHeld
   have hHeld:=hHeld2
   clear hHeld2
   try simp only [Act.put,List.setIfInBounds_toArray,List.set]
   refine wtk (i:=21) ?_
   try simp only [Act.put,List.setIfInBounds_toArray,List.set]
   refine wtk (i:=22) ?_
   try simp only [Act.put,List.setIfInBounds_toArray,List.set]
   refine wtk (i:=23) ?_
   try simp only [Act.put,List.setIfInBounds_toArray,List.set]
   refine wpAnyH_ready (rs:=[24]) (by kernel_rfl) (by simp) ?_
   refine arc (fun K hK=>?_) AllReadyH.nil
   have hthb:(w6.alloc (.cells #[.int .i64 0,.int .i64 0,.int .i64 0,.int .i64 0,.bool false,.bool false,.bool false,.string ⟨#[]⟩,.int .i64 0,.int .i64 0,.int .i64 0,.int .i64 0,.int .i64 0,.int .i64 0,.int .i64 0,.int .i64 0,.int .i64 0,.int .i64 0,.int .i64 0,.int .i64 0,.int .i64 0,.bool false,.int .i64 0] 59)).there w6.heap.size 0 23:=th_new _ _ _ _ 23 rfl (by simp)
   have hbl:w6.heap.size < (w6.alloc (.cells #[.int .i64 0,.int .i64 0,.int .i64 0,.int .i64 0,.bool false,.bool false,.bool false,.string ⟨#[]⟩,.int .i64 0,.int .i64 0,.int .i64 0,.int .i64 0,.int .i64 0,.int .i64 0,.int .i64 0,.int .i64 0,.int .i64 0,.int .i64 0,.int .i64 0,.int .i64 0,.int .i64 0,.bool false,.int .i64 0] 59)).heap.size:=by simp
   go_simp
   refine hK.out _ _ ?hSp25 (fun hHeld2=>?hrp25)
   case hSp25=>(try dsimp only);exact HQ6.out _ (Below.alloc hHeld.2.2.2.2.2.2 hHeld.2.2.2.2.2.2.size _)
   clear hK K hHeld
   have hHeld:=hHeld2
   clear hHeld2
   try simp only [Act.put,List.setIfInBounds_toArray,List.set]
   have hsb:w3.heap.size ≤ w6.heap.size:=by first | exact Nat.le_refl _ | exact HB5.size | exact HB6.size
   generalize hjb:newJ tk s i d m = J at *
   refine wpAnyH_ready (rs:=[25]) (by kernel_rfl) (by simp) ?_
   refine arc (fun K hK=>?_) AllReadyH.nil
   rw [if_pos (by rfl)]
   refine wp_store_mid 59 _ _ rfl w6.heap.size 0 _ rfl rfl hthb Tryz.size59 (by simp [Value.oneCell',jbc]) ?_
   try simp only [Act.put,List.setIfInBounds_toArray,List.set]
   refine hK.out _ _ ?hSp26 (fun hHeld2=>?hrp26)
   case hSp26=>(try dsimp only);exact HQ6.out _ (below_setCells hsb _ _ _ hHeld.2.2.2.2.2.2)
   clear hK K hHeld
   have hHeld:=hHeld2
   clear hHeld2
   try simp only [Act.put,List.setIfInBounds_toArray,List.set]
   refine wtk (i:=26) ?_
   try simp only [Act.put,List.setIfInBounds_toArray,List.set]
   have HB7:=hHeld.2.2.2.2.2.2
   have hrgb:=World.rangeAt_setCells_same _ _ _ (jbc i (tk i) J) hthb
   have hthb7:=th_setCells (jbc i (tk i) J) 0 (b:=w6.heap.size) _ hthb
   have hbl7:w6.heap.size < (World.setCells (w6.alloc (.cells #[.int .i64 0,.int .i64 0,.int .i64 0,.int .i64 0,.bool false,.bool false,.bool false,.string ⟨#[]⟩,.int .i64 0,.int .i64 0,.int .i64 0,.int .i64 0,.int .i64 0,.int .i64 0,.int .i64 0,.int .i64 0,.int .i64 0,.int .i64 0,.int .i64 0,.int .i64 0,.int .i64 0,.bool false,.int .i64 0] 59)) w6.heap.size 0 (jbc i (tk i) J)).heap.size:=by rw [size_setCells];exact hbl
   try simp only [List.toList_toArray] at HB7 ⊢
   generalize World.setCells (w6.alloc (.cells #[.int .i64 0,.int .i64 0,.int .i64 0,.int .i64 0,.bool false,.bool false,.bool false,.string ⟨#[]⟩,.int .i64 0,.int .i64 0,.int .i64 0,.int .i64 0,.int .i64 0,.int .i64 0,.int .i64 0,.int .i64 0,.int .i64 0,.int .i64 0,.int .i64 0,.int .i64 0,.int .i64 0,.bool false,.int .i64 0] 59)) w6.heap.size 0 (jbc i (tk i) J) = w7 at HB7 hrgb hthb7 hbl7 ⊢
   obtain ⟨bb,hbb⟩:∃ bb,bb = w6.heap.size:=⟨_,rfl⟩
   rw [← hbb] at hrgb hthb7 hbl7 hsb
   rw [← hbb]
   clear hbb
   refine wpAnyH_done (by kernel_rfl) ?_ _
   have HW7:=HW3'.out.below HB7
   have f3:=HW7.f.f3
   have hrow:w7.cell? ⟨A.jb,i,none⟩ = some (.pointer none):=by
    have:=HW7.jb.row i hi
    rw [hcl] at this;exact this
   have zjb:=HW7.jb.z i
   have hi0:(0:Int) ≤ (i:Int):=by omega
   have hiI:(i:Int) < (n:Int):=by omega
   have HW7':=Lib.hid HW7
   have HBB:=Lib.hid HB7
   clear HW7 HB7 hHeld hthb hbl HQ6 HM HN
   go_wp2_with fail
   have hcb:col bb = 0:=hcol0.out bb (by have:=HR3'.out.fr.size;omega)
   have hFb:¬ F bb:=fun t=>by have:=HW7'.out.c.hp bb t;omega
   have hFr8:Fr (fun k=>k = A.jb) w7 (w7.setCell ⟨A.jb,i,none⟩ (.pointer (some ⟨bb,0,none⟩))):=(Fr.refl (fun k=>k = A.jb) w7).setCell (p:=⟨A.jb,i,none⟩) rfl _
   have hxj:¬ A.x = A.jb:=col_ne HW7'.out.c.x HW7'.out.c.jb (by omega)
   have hbj:¬ bb = A.jb:=col_ne hcb HW7'.out.c.jb (by omega)
   have hx8:(w7.setCell ⟨A.jb,i,none⟩ (.pointer (some ⟨bb,0,none⟩))).cell? ⟨A.x,5,none⟩ = some (.pointer (some ⟨A.ph,0,none⟩)):=(hFr8.cell (p:=⟨A.x,5,none⟩) (block_lt HW7'.out.f.f5) hxj).trans HW7'.out.f.f5
   have hr8:(w7.setCell ⟨A.jb,i,none⟩ (.pointer (some ⟨bb,0,none⟩))).rangeAt bb 0 (jbc i (tk i) J):=rg_fr hFr8 hbl7 hbj hrgb
   have hFx:¬ F A.x:=fun t=>by have h1:=HW7'.out.c.hp _ t;have h2:=HW7'.out.c.x;omega
   have hl8:bb < (w7.setCell ⟨A.jb,i,none⟩ (.pointer (some ⟨bb,0,none⟩))).heap.size:=by simpa using hbl7
   have HQ9:Hid (∀ w',Fr F (w7.setCell ⟨A.jb,i,none⟩ (.pointer (some ⟨bb,0,none⟩))) w' → w'.cell? ⟨A.x,5,none⟩ = some (.pointer (some ⟨A.ph,0,none⟩)) ∧ w'.rangeAt bb 0 (jbc i (tk i) J) ∧ Fr F (w7.setCell ⟨A.jb,i,none⟩ (.pointer (some ⟨bb,0,none⟩))) w'):=fun W hf=>⟨(hf.cell (p:=⟨A.x,5,none⟩) (block_lt hx8) hFx).trans hx8,rg_fr hf hl8 hFb hr8,hf⟩
   have HP8:=Lib.hid (fun W (hb:Below (w7.setCell ⟨A.jb,i,none⟩ (.pointer (some ⟨bb,0,none⟩))).heap.size (w7.setCell ⟨A.jb,i,none⟩ (.pointer (some ⟨bb,0,none⟩))) W)=>(HW7'.out.hp.keep (hFr8.trans (Fr.of_below (S:=fun _=>False) hb) (U:=fun k=>k = A.jb) (fun _ _ h=>h) (fun _ _ h=>h.elim)) (fun k hk=>col_ne (HW7'.out.c.hp k hk) HW7'.out.c.jb (by omega))))
   have HKY:=Lib.hid fun W=>key_any (i:Int) (tk i) J W
   rw [jbv_eq] at HKY
   refine wp_region_held_drew (S:=(fun w'=>w'.cell? ⟨A.x,5,none⟩ = some (.pointer (some ⟨A.ph,0,none⟩)) ∧ w'.rangeAt bb 0 (jbc i (tk i) J) ∧ Fr F (w7.setCell ⟨A.jb,i,none⟩ (.pointer (some ⟨bb,0,none⟩))) w')) (by kernel_rfl) ?hS0x (fun hHeld=>?_)
   case hS0x=>(try dsimp only);exact HQ9.out _ ((Fr.refl _ _).drew)
   refine wtk (i:=0) ?_
   try simp only [Act.put,List.setIfInBounds_toArray,List.set]
   refine wtk (i:=1) ?_
   try simp only [Act.put,List.setIfInBounds_toArray,List.set]
   refine wtk (i:=2) ?_
   try simp only [Act.put,List.setIfInBounds_toArray,List.set]
   refine wtk (i:=3) ?_
   try simp only [Act.put,List.setIfInBounds_toArray,List.set]
   refine wpAnyH_take (i := 4) (oi := { dst := some 71, op := Op.load 59 (Operand.tmp 6), type := 59, pos := "exec.go:139", after := #[], guard := none }) rfl (by kernel_rfl) (by kernel_rfl) (by kernel_rfl) (fun _ _ _ h => h) (yieldsIf_load_mid (by rfl) 59 _ rfl bb 0 rfl (jbc i (tk i) J) _ ?hSx5 Tryz.underlying59 rfl Tryz.size59) (by assumption) ?_
   case hSx5=>(intro wS hSw;(try dsimp only at hSw);exact hSw.2.1)
   try simp only [Act.put,List.setIfInBounds_toArray,List.set]
   refine wpAnyH_ready (rs:=[5]) (by kernel_rfl) (by simp) ?_
   refine arc (fun K hK=>?_) AllReadyH.nil
   go_simp;go_at_call 68;refine Calls.mono (HKY.out _) ?_;rintro e w8 ⟨rfl,hb8⟩;have hB8:Below (w7.setCell ⟨A.jb,i,none⟩ (.pointer (some ⟨bb,0,none⟩))).heap.size (w7.setCell ⟨A.jb,i,none⟩ (.pointer (some ⟨bb,0,none⟩))) w8:=(bel_drew (Below.refl _ _)).trans hb8
   refine hK.out _ _ ?hSx6 (fun hHeld2=>?hrx6)
   case hSx6=>(try dsimp only);exact HQ9.out _ (Fr.of_below hB8)
   clear hK K hHeld
   have hHeld:=hHeld2
   clear hHeld2
   try simp only [Act.put,List.setIfInBounds_toArray,List.set]
   refine wpAnyH_ready (rs:=[6]) (by kernel_rfl) (by simp) ?_
   refine arc (fun K hK=>?_) AllReadyH.nil
   go_simp;go_at_call 67;refine Calls.mono (push_m (HP8.out _ hB8) (Nat.le_trans (HW7'.out.c.lt _ (by rw [HW7'.out.c.x];omega)).1 (Nat.le_trans (Nat.le_of_lt (block_lt HW7'.out.f.f5)) (by have:=hB8.size;simpa using this))) (keyJ tk i J)) ?_;rintro e w9 ⟨rfl,F9,hp9,hF9,hf9⟩
   refine hK.out _ _ ?hSx7 (fun hHeld2=>?hrx7)
   case hSx7=>(try dsimp only);exact HQ9.out _ ((Fr.of_below (S:=F) hB8).trans hf9 (fun _ _ h=>h) (fun _ _ h=>h))
   clear hK K hHeld
   have hHeld:=hHeld2
   clear hHeld2
   try simp only [Act.put,List.setIfInBounds_toArray,List.set]
   refine wpAnyH_done (by kernel_rfl) ?_ _
   have hpn:=push_new HW7'.out hi hcl J
   rw [hpn.1] at hp9
   obtain ⟨col9,HW9,hfr9,hc9⟩:=HW7'.out.rel2 hi hcl J (by rw [← hjb];exact newJ_fine (HW7'.out.ok i hi)) hcb (Nat.le_trans HBx (by omega)) hbl7 hrgb hthb7 hB8 hp9 hF9 hf9 hpn.2
   have HTE:=Lib.hid (tell_is HW9 1 i J (by omega) (by omega) hi (upd_self _ _ _) ho)
   have hXR:XR col w col9 w9:=⟨(HR3'.out.fr.trans (Fr.of_below (S:=fun _=>False) HBB.out) (fun _ _ h=>h) (fun _ _ h=>h.elim)).trans hfr9 (fun _ _ h=>h) (fun k hk e=>e),fun k hk e=>hc9 k (by have:=HR3'.out.fr.size;have:=HBB.out.size;omega) (by have:=HR3'.out.fr.size;omega) e⟩
   have HXR:=Lib.hid hXR
   clear hXR hfr9 hc9 HW9 hp9 hF9 hf9 hHeld HQ9 hx8 hr8 f3 hrow zjb hB8 hb8 hFr8 HP8
   go_wp2_with (go_at_call 69;refine HTE.out.mono ?_;rintro e w10 ⟨rfl,col10,so10,HW10,HR10⟩)
   go_end0
   subst hjb
   exact ⟨rfl,m,hm,col10,so10,_,_,_,_,HW10,HXR.out.trans HR10⟩
  refine arc (fun K hK=>?_) ?_
  ·skip
   have hthb:(w5.alloc (.cells #[.int .i64 0,.int .i64 0,.int .i64 0,.int .i64 0,.bool false,.bool false,.bool false,.string ⟨#[]⟩,.int .i64 0,.int .i64 0,.int .i64 0,.int .i64 0,.int .i64 0,.int .i64 0,.int .i64 0,.int .i64 0,.int .i64 0,.int .i64 0,.int .i64 0,.int .i64 0,.int .i64 0,.bool false,.int .i64 0] 59)).there w5.heap.size 0 23:=th_new _ _ _ _ 23 rfl (by simp)
   have hbl:w5.heap.size < (w5.alloc (.cells #[.int .i64 0,.int .i64 0,.int .i64 0,.int .i64 0,.bool false,.bool false,.bool false,.string ⟨#[]⟩,.int .i64 0,.int .i64 0,.int .i64 0,.int .i64 0,.int .i64 0,.int .i64 0,.int .i64 0,.int .i64 0,.int .i64 0,.int .i64 0,.int .i64 0,.int .i64 0,.int .i64 0,.bool false,.int .i64 0] 59)).heap.size:=by simp
   go_simp
   refine hK.out _ _ ?hSp28 (fun hHeld2=>?hrp28)
   case hSp28=>(try dsimp only);exact HQ6.out _ (Below.alloc hHeld.2.2.2.2.2.2 hHeld.2.2.2.2.2.2.size _)
   clear hK K hHeld
   have hHeld:=hHeld2
   clear hHeld2
   try simp only [Act.put,List.setIfInBounds_toArray,List.set]
   refine wpAnyH_ready (rs:=[20]) (by kernel_rfl) (by simp) ?_
   refine arc (fun K hK=>?_) AllReadyH.nil
   go_simp;go_at_call 65;refine Calls.mono (HN.out _ m hHeld.2.2.2.2.2.2) ?_;rintro e w6 ⟨rfl,hb6⟩;have HB6:=hHeld.2.2.2.2.2.2.trans (hb6.mono hHeld.2.2.2.2.2.2.size);have hthb:=th_below hb6 hbl hthb;have hbl:=Nat.lt_of_lt_of_le hbl hb6.size
   refine hK.out _ _ ?hSp29 (fun hHeld2=>?hrp29)
   case hSp29=>(try dsimp only);exact HQ6.out _ HB6
   clear hK K hHeld
   have hHeld:=hHeld2
   clear hHeld2
   try simp only [Act.put,List.setIfInBounds_toArray,List.set]
   refine wtk (i:=21) ?_
   try simp only [Act.put,List.setIfInBounds_toArray,List.set]
   refine wtk (i:=22) ?_
   try simp only [Act.put,List.setIfInBounds_toArray,List.set]
   refine wtk (i:=23) ?_
   try simp only [Act.put,List.setIfInBounds_toArray,List.set]
   have hsb:w3.heap.size ≤ w5.heap.size:=by first | exact Nat.le_refl _ | exact HB5.size | exact HB6.size
   generalize hjb:newJ tk s i d m = J at *
   refine wpAnyH_ready (rs:=[25]) (by kernel_rfl) (by simp) ?_
   refine arc (fun K hK=>?_) AllReadyH.nil
   rw [if_pos (by rfl)]
   refine wp_store_mid 59 _ _ rfl w5.heap.size 0 _ rfl rfl hthb Tryz.size59 (by simp [Value.oneCell',jbc]) ?_
   try simp only [Act.put,List.setIfInBounds_toArray,List.set]
   refine hK.out _ _ ?hSp33 (fun hHeld2=>?hrp33)
   case hSp33=>(try dsimp only);exact HQ6.out _ (below_setCells hsb _ _ _ hHeld.2.2.2.2.2.2)
   clear hK K hHeld
   have hHeld:=hHeld2
   clear hHeld2
   try simp only [Act.put,List.setIfInBounds_toArray,List.set]
   refine wtk (i:=26) ?_
   try simp only [Act.put,List.setIfInBounds_toArray,List.set]
   have HB7:=hHeld.2.2.2.2.2.2
   have hrgb:=World.rangeAt_setCells_same _ _ _ (jbc i (tk i) J) hthb
   have hthb7:=th_setCells (jbc i (tk i) J) 0 (b:=w5.heap.size) _ hthb
   have hbl7:w5.heap.size < (World.setCells w6 w5.heap.size 0 (jbc i (tk i) J)).heap.size:=by rw [size_setCells];exact hbl
   try simp only [List.toList_toArray] at HB7 ⊢
   generalize World.setCells w6 w5.heap.size 0 (jbc i (tk i) J) = w7 at HB7 hrgb hthb7 hbl7 ⊢
   obtain ⟨bb,hbb⟩:∃ bb,bb = w5.heap.size:=⟨_,rfl⟩
   rw [← hbb] at hrgb hthb7 hbl7 hsb
   rw [← hbb]
   clear hbb
   refine wpAnyH_done (by kernel_rfl) ?_ _
   have HW7:=HW3'.out.below HB7
   have f3:=HW7.f.f3
   have hrow:w7.cell? ⟨A.jb,i,none⟩ = some (.pointer none):=by
    have:=HW7.jb.row i hi
    rw [hcl] at this;exact this
   have zjb:=HW7.jb.z i
   have hi0:(0:Int) ≤ (i:Int):=by omega
   have hiI:(i:Int) < (n:Int):=by omega
   have HW7':=Lib.hid HW7
   have HBB:=Lib.hid HB7
   clear HW7 HB7 hHeld hthb hbl HQ6 HM HN
   go_wp2_with fail
   have hcb:col bb = 0:=hcol0.out bb (by have:=HR3'.out.fr.size;omega)
   have hFb:¬ F bb:=fun t=>by have:=HW7'.out.c.hp bb t;omega
   have hFr8:Fr (fun k=>k = A.jb) w7 (w7.setCell ⟨A.jb,i,none⟩ (.pointer (some ⟨bb,0,none⟩))):=(Fr.refl (fun k=>k = A.jb) w7).setCell (p:=⟨A.jb,i,none⟩) rfl _
   have hxj:¬ A.x = A.jb:=col_ne HW7'.out.c.x HW7'.out.c.jb (by omega)
   have hbj:¬ bb = A.jb:=col_ne hcb HW7'.out.c.jb (by omega)
   have hx8:(w7.setCell ⟨A.jb,i,none⟩ (.pointer (some ⟨bb,0,none⟩))).cell? ⟨A.x,5,none⟩ = some (.pointer (some ⟨A.ph,0,none⟩)):=(hFr8.cell (p:=⟨A.x,5,none⟩) (block_lt HW7'.out.f.f5) hxj).trans HW7'.out.f.f5
   have hr8:(w7.setCell ⟨A.jb,i,none⟩ (.pointer (some ⟨bb,0,none⟩))).rangeAt bb 0 (jbc i (tk i) J):=rg_fr hFr8 hbl7 hbj hrgb
   have hFx:¬ F A.x:=fun t=>by have h1:=HW7'.out.c.hp _ t;have h2:=HW7'.out.c.x;omega
   have hl8:bb < (w7.setCell ⟨A.jb,i,none⟩ (.pointer (some ⟨bb,0,none⟩))).heap.size:=by simpa using hbl7
   have HQ9:Hid (∀ w',Fr F (w7.setCell ⟨A.jb,i,none⟩ (.pointer (some ⟨bb,0,none⟩))) w' → w'.cell? ⟨A.x,5,none⟩ = some (.pointer (some ⟨A.ph,0,none⟩)) ∧ w'.rangeAt bb 0 (jbc i (tk i) J) ∧ Fr F (w7.setCell ⟨A.jb,i,none⟩ (.pointer (some ⟨bb,0,none⟩))) w'):=fun W hf=>⟨(hf.cell (p:=⟨A.x,5,none⟩) (block_lt hx8) hFx).trans hx8,rg_fr hf hl8 hFb hr8,hf⟩
   have HP8:=Lib.hid (fun W (hb:Below (w7.setCell ⟨A.jb,i,none⟩ (.pointer (some ⟨bb,0,none⟩))).heap.size (w7.setCell ⟨A.jb,i,none⟩ (.pointer (some ⟨bb,0,none⟩))) W)=>(HW7'.out.hp.keep (hFr8.trans (Fr.of_below (S:=fun _=>False) hb) (U:=fun k=>k = A.jb) (fun _ _ h=>h) (fun _ _ h=>h.elim)) (fun k hk=>col_ne (HW7'.out.c.hp k hk) HW7'.out.c.jb (by omega))))
   have HKY:=Lib.hid fun W=>key_any (i:Int) (tk i) J W
   rw [jbv_eq] at HKY
   refine wp_region_held_drew (S:=(fun w'=>w'.cell? ⟨A.x,5,none⟩ = some (.pointer (some ⟨A.ph,0,none⟩)) ∧ w'.rangeAt bb 0 (jbc i (tk i) J) ∧ Fr F (w7.setCell ⟨A.jb,i,none⟩ (.pointer (some ⟨bb,0,none⟩))) w')) (by kernel_rfl) ?hS0y (fun hHeld=>?_)
   case hS0y=>(try dsimp only);exact HQ9.out _ ((Fr.refl _ _).drew)
   refine wtk (i:=0) ?_
   try simp only [Act.put,List.setIfInBounds_toArray,List.set]
   refine wtk (i:=1) ?_
   try simp only [Act.put,List.setIfInBounds_toArray,List.set]
   refine wtk (i:=2) ?_
   try simp only [Act.put,List.setIfInBounds_toArray,List.set]
   refine wtk (i:=3) ?_
   try simp only [Act.put,List.setIfInBounds_toArray,List.set]
   refine wpAnyH_take (i := 4) (oi := { dst := some 71, op := Op.load 59 (Operand.tmp 6), type := 59, pos := "exec.go:139", after := #[], guard := none }) rfl (by kernel_rfl) (by kernel_rfl) (by kernel_rfl) (fun _ _ _ h => h) (yieldsIf_load_mid (by rfl) 59 _ rfl bb 0 rfl (jbc i (tk i) J) _ ?hSy5 Tryz.underlying59 rfl Tryz.size59) (by assumption) ?_
   case hSy5=>(intro wS hSw;(try dsimp only at hSw);exact hSw.2.1)
   try simp only [Act.put,List.setIfInBounds_toArray,List.set]
   refine wpAnyH_ready (rs:=[5]) (by kernel_rfl) (by simp) ?_
   refine arc (fun K hK=>?_) AllReadyH.nil
   go_simp;go_at_call 68;refine Calls.mono (HKY.out _) ?_;rintro e w8 ⟨rfl,hb8⟩;have hB8:Below (w7.setCell ⟨A.jb,i,none⟩ (.pointer (some ⟨bb,0,none⟩))).heap.size (w7.setCell ⟨A.jb,i,none⟩ (.pointer (some ⟨bb,0,none⟩))) w8:=(bel_drew (Below.refl _ _)).trans hb8
   refine hK.out _ _ ?hSy6 (fun hHeld2=>?hry6)
   case hSy6=>(try dsimp only);exact HQ9.out _ (Fr.of_below hB8)
   clear hK K hHeld
   have hHeld:=hHeld2
   clear hHeld2
   try simp only [Act.put,List.setIfInBounds_toArray,List.set]
   refine wpAnyH_ready (rs:=[6]) (by kernel_rfl) (by simp) ?_
   refine arc (fun K hK=>?_) AllReadyH.nil
   go_simp;go_at_call 67;refine Calls.mono (push_m (HP8.out _ hB8) (Nat.le_trans (HW7'.out.c.lt _ (by rw [HW7'.out.c.x];omega)).1 (Nat.le_trans (Nat.le_of_lt (block_lt HW7'.out.f.f5)) (by have:=hB8.size;simpa using this))) (keyJ tk i J)) ?_;rintro e w9 ⟨rfl,F9,hp9,hF9,hf9⟩
   refine hK.out _ _ ?hSy7 (fun hHeld2=>?hry7)
   case hSy7=>(try dsimp only);exact HQ9.out _ ((Fr.of_below (S:=F) hB8).trans hf9 (fun _ _ h=>h) (fun _ _ h=>h))
   clear hK K hHeld
   have hHeld:=hHeld2
   clear hHeld2
   try simp only [Act.put,List.setIfInBounds_toArray,List.set]
   refine wpAnyH_done (by kernel_rfl) ?_ _
   have hpn:=push_new HW7'.out hi hcl J
   rw [hpn.1] at hp9
   obtain ⟨col9,HW9,hfr9,hc9⟩:=HW7'.out.rel2 hi hcl J (by rw [← hjb];exact newJ_fine (HW7'.out.ok i hi)) hcb (Nat.le_trans HBx (by omega)) hbl7 hrgb hthb7 hB8 hp9 hF9 hf9 hpn.2
   have HTE:=Lib.hid (tell_is HW9 1 i J (by omega) (by omega) hi (upd_self _ _ _) ho)
   have hXR:XR col w col9 w9:=⟨(HR3'.out.fr.trans (Fr.of_below (S:=fun _=>False) HBB.out) (fun _ _ h=>h) (fun _ _ h=>h.elim)).trans hfr9 (fun _ _ h=>h) (fun k hk e=>e),fun k hk e=>hc9 k (by have:=HR3'.out.fr.size;have:=HBB.out.size;omega) (by have:=HR3'.out.fr.size;omega) e⟩
   have HXR:=Lib.hid hXR
   clear hXR hfr9 hc9 HW9 hp9 hF9 hf9 hHeld HQ9 hx8 hr8 f3 hrow zjb hB8 hb8 hFr8 HP8
   go_wp2_with (go_at_call 69;refine HTE.out.mono ?_;rintro e w10 ⟨rfl,col10,so10,HW10,HR10⟩)
   go_end0
   subst hjb
   exact ⟨rfl,m,hm,col10,so10,_,_,_,_,HW10,HXR.out.trans HR10⟩
  exact AllReadyH.nil
 refine arc (fun K hK=>?_) ?_
 ·skip
  have hthb:(w3.drew.alloc (.cells #[.int .i64 0,.int .i64 0,.int .i64 0,.int .i64 0,.bool false,.bool false,.bool false,.string ⟨#[]⟩,.int .i64 0,.int .i64 0,.int .i64 0,.int .i64 0,.int .i64 0,.int .i64 0,.int .i64 0,.int .i64 0,.int .i64 0,.int .i64 0,.int .i64 0,.int .i64 0,.int .i64 0,.bool false,.int .i64 0] 59)).there w3.drew.heap.size 0 23:=th_new _ _ _ _ 23 rfl (by simp)
  have hbl:w3.drew.heap.size < (w3.drew.alloc (.cells #[.int .i64 0,.int .i64 0,.int .i64 0,.int .i64 0,.bool false,.bool false,.bool false,.string ⟨#[]⟩,.int .i64 0,.int .i64 0,.int .i64 0,.int .i64 0,.int .i64 0,.int .i64 0,.int .i64 0,.int .i64 0,.int .i64 0,.int .i64 0,.int .i64 0,.int .i64 0,.int .i64 0,.bool false,.int .i64 0] 59)).heap.size:=by simp
  go_simp
  refine hK.out _ _ ?hSp35 (fun hHeld2=>?hrp35)
  case hSp35=>(try dsimp only);exact HQ6.out _ (Below.alloc hHeld.2.2.2.2.2.2 hHeld.2.2.2.2.2.2.size _)
  clear hK K hHeld
  have hHeld:=hHeld2
  clear hHeld2
  try simp only [Act.put,List.setIfInBounds_toArray,List.set]
  refine wpAnyH_ready (rs:=[19]) (by kernel_rfl) (by simp) ?_
  refine arc (fun K hK=>?_) AllReadyH.nil
  go_simp;go_at_call 66;refine Calls.mono (HM.out _ hHeld.2.2.2.2.2.2) ?_;rintro e w5 ⟨⟨m,rfl,hm⟩,hb5⟩;have HB5:=hHeld.2.2.2.2.2.2.trans (hb5.mono hHeld.2.2.2.2.2.2.size);have hthb:=th_below hb5 hbl hthb;have hbl:=Nat.lt_of_lt_of_le hbl hb5.size
  refine hK.out _ _ ?hSp36 (fun hHeld2=>?hrp36)
  case hSp36=>(try dsimp only);exact HQ6.out _ HB5
  clear hK K hHeld
  have hHeld:=hHeld2
  clear hHeld2
  try simp only [Act.put,List.setIfInBounds_toArray,List.set]
  refine wpAnyH_ready (rs:=[20]) (by kernel_rfl) (by simp) ?_
  refine arc (fun K hK=>?_) AllReadyH.nil
  go_simp;go_at_call 65;refine Calls.mono (HN.out _ m hHeld.2.2.2.2.2.2) ?_;rintro e w6 ⟨rfl,hb6⟩;have HB6:=hHeld.2.2.2.2.2.2.trans (hb6.mono hHeld.2.2.2.2.2.2.size);have hthb:=th_below hb6 hbl hthb;have hbl:=Nat.lt_of_lt_of_le hbl hb6.size
  refine hK.out _ _ ?hSp37 (fun hHeld2=>?hrp37)
  case hSp37=>(try dsimp only);exact HQ6.out _ HB6
  clear hK K hHeld
  have hHeld:=hHeld2
  clear hHeld2
  try simp only [Act.put,List.setIfInBounds_toArray,List.set]
  refine wtk (i:=21) ?_
  try simp only [Act.put,List.setIfInBounds_toArray,List.set]
  refine wtk (i:=22) ?_
  try simp only [Act.put,List.setIfInBounds_toArray,List.set]
  refine wtk (i:=23) ?_
  try simp only [Act.put,List.setIfInBounds_toArray,List.set]
  have hsb:w3.heap.size ≤ w3.drew.heap.size:=by first | exact Nat.le_refl _ | exact HB5.size | exact HB6.size
  generalize hjb:newJ tk s i d m = J at *
  refine wpAnyH_ready (rs:=[25]) (by kernel_rfl) (by simp) ?_
  refine arc (fun K hK=>?_) AllReadyH.nil
  rw [if_pos (by rfl)]
  refine wp_store_mid 59 _ _ rfl w3.drew.heap.size 0 _ rfl rfl hthb Tryz.size59 (by simp [Value.oneCell',jbc]) ?_
  try simp only [Act.put,List.setIfInBounds_toArray,List.set]
  refine hK.out _ _ ?hSp41 (fun hHeld2=>?hrp41)
  case hSp41=>(try dsimp only);exact HQ6.out _ (below_setCells hsb _ _ _ hHeld.2.2.2.2.2.2)
  clear hK K hHeld
  have hHeld:=hHeld2
  clear hHeld2
  try simp only [Act.put,List.setIfInBounds_toArray,List.set]
  refine wtk (i:=26) ?_
  try simp only [Act.put,List.setIfInBounds_toArray,List.set]
  have HB7:=hHeld.2.2.2.2.2.2
  have hrgb:=World.rangeAt_setCells_same _ _ _ (jbc i (tk i) J) hthb
  have hthb7:=th_setCells (jbc i (tk i) J) 0 (b:=w3.drew.heap.size) _ hthb
  have hbl7:w3.drew.heap.size < (World.setCells w6 w3.drew.heap.size 0 (jbc i (tk i) J)).heap.size:=by rw [size_setCells];exact hbl
  try simp only [List.toList_toArray] at HB7 ⊢
  generalize World.setCells w6 w3.drew.heap.size 0 (jbc i (tk i) J) = w7 at HB7 hrgb hthb7 hbl7 ⊢
  obtain ⟨bb,hbb⟩:∃ bb,bb = w3.drew.heap.size:=⟨_,rfl⟩
  rw [← hbb] at hrgb hthb7 hbl7 hsb
  change bb = w3.heap.size at hbb
  rw [← hbb]
  clear hbb
  refine wpAnyH_done (by kernel_rfl) ?_ _
  have HW7:=HW3'.out.below HB7
  have f3:=HW7.f.f3
  have hrow:w7.cell? ⟨A.jb,i,none⟩ = some (.pointer none):=by
   have:=HW7.jb.row i hi
   rw [hcl] at this;exact this
  have zjb:=HW7.jb.z i
  have hi0:(0:Int) ≤ (i:Int):=by omega
  have hiI:(i:Int) < (n:Int):=by omega
  have HW7':=Lib.hid HW7
  have HBB:=Lib.hid HB7
  clear HW7 HB7 hHeld hthb hbl HQ6 HM HN
  go_wp2_with fail
  have hcb:col bb = 0:=hcol0.out bb (by have:=HR3'.out.fr.size;omega)
  have hFb:¬ F bb:=fun t=>by have:=HW7'.out.c.hp bb t;omega
  have hFr8:Fr (fun k=>k = A.jb) w7 (w7.setCell ⟨A.jb,i,none⟩ (.pointer (some ⟨bb,0,none⟩))):=(Fr.refl (fun k=>k = A.jb) w7).setCell (p:=⟨A.jb,i,none⟩) rfl _
  have hxj:¬ A.x = A.jb:=col_ne HW7'.out.c.x HW7'.out.c.jb (by omega)
  have hbj:¬ bb = A.jb:=col_ne hcb HW7'.out.c.jb (by omega)
  have hx8:(w7.setCell ⟨A.jb,i,none⟩ (.pointer (some ⟨bb,0,none⟩))).cell? ⟨A.x,5,none⟩ = some (.pointer (some ⟨A.ph,0,none⟩)):=(hFr8.cell (p:=⟨A.x,5,none⟩) (block_lt HW7'.out.f.f5) hxj).trans HW7'.out.f.f5
  have hr8:(w7.setCell ⟨A.jb,i,none⟩ (.pointer (some ⟨bb,0,none⟩))).rangeAt bb 0 (jbc i (tk i) J):=rg_fr hFr8 hbl7 hbj hrgb
  have hFx:¬ F A.x:=fun t=>by have h1:=HW7'.out.c.hp _ t;have h2:=HW7'.out.c.x;omega
  have hl8:bb < (w7.setCell ⟨A.jb,i,none⟩ (.pointer (some ⟨bb,0,none⟩))).heap.size:=by simpa using hbl7
  have HQ9:Hid (∀ w',Fr F (w7.setCell ⟨A.jb,i,none⟩ (.pointer (some ⟨bb,0,none⟩))) w' → w'.cell? ⟨A.x,5,none⟩ = some (.pointer (some ⟨A.ph,0,none⟩)) ∧ w'.rangeAt bb 0 (jbc i (tk i) J) ∧ Fr F (w7.setCell ⟨A.jb,i,none⟩ (.pointer (some ⟨bb,0,none⟩))) w'):=fun W hf=>⟨(hf.cell (p:=⟨A.x,5,none⟩) (block_lt hx8) hFx).trans hx8,rg_fr hf hl8 hFb hr8,hf⟩
  have HP8:=Lib.hid (fun W (hb:Below (w7.setCell ⟨A.jb,i,none⟩ (.pointer (some ⟨bb,0,none⟩))).heap.size (w7.setCell ⟨A.jb,i,none⟩ (.pointer (some ⟨bb,0,none⟩))) W)=>(HW7'.out.hp.keep (hFr8.trans (Fr.of_below (S:=fun _=>False) hb) (U:=fun k=>k = A.jb) (fun _ _ h=>h) (fun _ _ h=>h.elim)) (fun k hk=>col_ne (HW7'.out.c.hp k hk) HW7'.out.c.jb (by omega))))
  have HKY:=Lib.hid fun W=>key_any (i:Int) (tk i) J W
  rw [jbv_eq] at HKY
  refine wp_region_held_drew (S:=(fun w'=>w'.cell? ⟨A.x,5,none⟩ = some (.pointer (some ⟨A.ph,0,none⟩)) ∧ w'.rangeAt bb 0 (jbc i (tk i) J) ∧ Fr F (w7.setCell ⟨A.jb,i,none⟩ (.pointer (some ⟨bb,0,none⟩))) w')) (by kernel_rfl) ?hS0z (fun hHeld=>?_)
  case hS0z=>(try dsimp only);exact HQ9.out _ ((Fr.refl _ _).drew)
  refine wtk (i:=0) ?_
  try simp only [Act.put,List.setIfInBounds_toArray,List.set]
  refine wtk (i:=1) ?_
  try simp only [Act.put,List.setIfInBounds_toArray,List.set]
  refine wtk (i:=2) ?_
  try simp only [Act.put,List.setIfInBounds_toArray,List.set]
  refine wtk (i:=3) ?_
  try simp only [Act.put,List.setIfInBounds_toArray,List.set]
  refine wpAnyH_take (i := 4) (oi := { dst := some 71, op := Op.load 59 (Operand.tmp 6), type := 59, pos := "exec.go:139", after := #[], guard := none }) rfl (by kernel_rfl) (by kernel_rfl) (by kernel_rfl) (fun _ _ _ h => h) (yieldsIf_load_mid (by rfl) 59 _ rfl bb 0 rfl (jbc i (tk i) J) _ ?hSz5 Tryz.underlying59 rfl Tryz.size59) (by assumption) ?_
  case hSz5=>(intro wS hSw;(try dsimp only at hSw);exact hSw.2.1)
  try simp only [Act.put,List.setIfInBounds_toArray,List.set]
  refine wpAnyH_ready (rs:=[5]) (by kernel_rfl) (by simp) ?_
  refine arc (fun K hK=>?_) AllReadyH.nil
  go_simp;go_at_call 68;refine Calls.mono (HKY.out _) ?_;rintro e w8 ⟨rfl,hb8⟩;have hB8:Below (w7.setCell ⟨A.jb,i,none⟩ (.pointer (some ⟨bb,0,none⟩))).heap.size (w7.setCell ⟨A.jb,i,none⟩ (.pointer (some ⟨bb,0,none⟩))) w8:=(bel_drew (Below.refl _ _)).trans hb8
  refine hK.out _ _ ?hSz6 (fun hHeld2=>?hrz6)
  case hSz6=>(try dsimp only);exact HQ9.out _ (Fr.of_below hB8)
  clear hK K hHeld
  have hHeld:=hHeld2
  clear hHeld2
  try simp only [Act.put,List.setIfInBounds_toArray,List.set]
  refine wpAnyH_ready (rs:=[6]) (by kernel_rfl) (by simp) ?_
  refine arc (fun K hK=>?_) AllReadyH.nil
  go_simp;go_at_call 67;refine Calls.mono (push_m (HP8.out _ hB8) (Nat.le_trans (HW7'.out.c.lt _ (by rw [HW7'.out.c.x];omega)).1 (Nat.le_trans (Nat.le_of_lt (block_lt HW7'.out.f.f5)) (by have:=hB8.size;simpa using this))) (keyJ tk i J)) ?_;rintro e w9 ⟨rfl,F9,hp9,hF9,hf9⟩
  refine hK.out _ _ ?hSz7 (fun hHeld2=>?hrz7)
  case hSz7=>(try dsimp only);exact HQ9.out _ ((Fr.of_below (S:=F) hB8).trans hf9 (fun _ _ h=>h) (fun _ _ h=>h))
  clear hK K hHeld
  have hHeld:=hHeld2
  clear hHeld2
  try simp only [Act.put,List.setIfInBounds_toArray,List.set]
  refine wpAnyH_done (by kernel_rfl) ?_ _
  have hpn:=push_new HW7'.out hi hcl J
  rw [hpn.1] at hp9
  obtain ⟨col9,HW9,hfr9,hc9⟩:=HW7'.out.rel2 hi hcl J (by rw [← hjb];exact newJ_fine (HW7'.out.ok i hi)) hcb (Nat.le_trans HBx (by omega)) hbl7 hrgb hthb7 hB8 hp9 hF9 hf9 hpn.2
  have HTE:=Lib.hid (tell_is HW9 1 i J (by omega) (by omega) hi (upd_self _ _ _) ho)
  have hXR:XR col w col9 w9:=⟨(HR3'.out.fr.trans (Fr.of_below (S:=fun _=>False) HBB.out) (fun _ _ h=>h) (fun _ _ h=>h.elim)).trans hfr9 (fun _ _ h=>h) (fun k hk e=>e),fun k hk e=>hc9 k (by have:=HR3'.out.fr.size;have:=HBB.out.size;omega) (by have:=HR3'.out.fr.size;omega) e⟩
  have HXR:=Lib.hid hXR
  clear hXR hfr9 hc9 HW9 hp9 hF9 hf9 hHeld HQ9 hx8 hr8 f3 hrow zjb hB8 hb8 hFr8 HP8
  go_wp2_with (go_at_call 69;refine HTE.out.mono ?_;rintro e w10 ⟨rfl,col10,so10,HW10,HR10⟩)
  go_end0
  subst hjb
  exact ⟨rfl,m,hm,col10,so10,_,_,_,_,HW10,HXR.out.trans HR10⟩
 exact AllReadyH.nil
end
end
end Go.Proofs.YtnoahekcemfmcaaGreatDoor
