/- A part of the walk: Po Sk. -/
import Derived.Test.YtnoahekcemfmcaaGreatDoorR13
import Derived.Deep.RegionHeld3
namespace Go.Proofs.YtnoahekcemfmcaaGreatDoor
set_option linter.unusedVariables false
set_option linter.unusedSimpArgs false
set_option maxHeartbeats 80000000
set_option maxRecDepth 100000
section
open Go.RowKit
structure Rows0 (w:World) (R:Nat):Prop where
 d:∀ i,i < 65 → w.cell? ⟨R,i * 4,none⟩ = some (.int .u32 0)
 u:∀ i,i < 65 → w.cell? ⟨R,i * 4 + 1,none⟩ = some (.int .i32 0)
 l:∀ i,i < 65 → w.cell? ⟨R,i * 4 + 3,none⟩ = some (.slice none 0 0)
 z:∀ o,w.frozen? ⟨R,o,none⟩ = false
theorem Rows0.lt {w:World} {R:Nat} (h:Rows0 w R):R < w.heap.size:=block_lt (h.d 0 (by omega))
theorem Rows0.keep {T:Nat → Prop} {w w':World} {R:Nat} (h:Rows0 w R) (hf:Fr T w w') (hR:¬ T R):Rows0 w' R :=
 ⟨fun i hi=>(hf.cell (p:=⟨R,i * 4,none⟩) h.lt hR).trans (h.d i hi),fun i hi=>(hf.cell (p:=⟨R,i * 4 + 1,none⟩) h.lt hR).trans (h.u i hi),fun i hi=>(hf.cell (p:=⟨R,i * 4 + 3,none⟩) h.lt hR).trans (h.l i hi),fun o=>(hf.frozen (p:=⟨R,o,none⟩) h.lt hR).trans (h.z o)⟩
theorem BoolsIn.set {B:Nat} {w:World} {a:Option Addr} {n:Nat} {xs:List Bool} {p:Addr} {kd:IntKind} {i:Int} (v:Value) (h:BoolsIn B w a n xs) (hp:w.cell? p = some (.int kd i)):BoolsIn B (w.setCell p v) a n xs :=
 ⟨h.1,fun h0=>by
  obtain ⟨b,o,e,hlt,hc⟩:=h.2 h0
  refine ⟨b,o,e,hlt,fun j hj=>?_⟩
  rw [World.cell?_setCell_other _ _ _ _ (fun e=>by have:=hc j hj;rw [← e,hp] at this;simp at this)]
  exact hc j hj⟩
theorem BoolsIn.drew {B:Nat} {w:World} {a:Option Addr} {n:Nat} {xs:List Bool} (h:BoolsIn B w a n xs):BoolsIn B w.drew a n xs:=h
theorem BoolsIn.more {B C:Nat} {w:World} {a:Option Addr} {n:Nat} {xs:List Bool} (h:BoolsIn B w a n xs) (hC:B ≤ C):BoolsIn C w a n xs :=
 ⟨h.1,fun h0=>by
  obtain ⟨b,o,e,hlt,hc⟩:=h.2 h0
  exact ⟨b,o,e,by omega,hc⟩⟩
theorem of_even {w:World} {R m k:Nat} {kind:Int} (h:Rows0 w R) (h1:1 ≤ m) (h2:m ≤ k) (h3:k ≤ 64) :
  Calls Tryz.prog 145 #[.pointer (some ⟨R,0,none⟩),.int .i64 kind,.int .i64 m,.int .i64 k] w fun e w'=>(∃ a c xs,e = .returned (.slice a k c) ∧ BoolsIn w'.heap.size w' a k xs) ∧ Fr (· = R) w w':=by
 have hRl:=h.lt
 have hm1:(1:Int) ≤ (m:Int):=by omega
 have hm0:(0:Int) ≤ (m:Int):=by omega
 have hm2:(m:Int) < 65:=by omega
 have hkk:(k:Int).toNat = k:=by omega
 have hb0:Fr (fun _=>False) w (((w.alloc (.cells #[.int .i64 kind] 3)).alloc (.cells #[.int .i64 m] 3)).alloc (.cells #[.int .i64 k] 3)):=(((Fr.refl _ w).alloc _).alloc _).alloc _
 have ck:(((w.alloc (.cells #[.int .i64 kind] 3)).alloc (.cells #[.int .i64 m] 3)).alloc (.cells #[.int .i64 k] 3)).cell? ⟨w.heap.size + 1 + 1,0,none⟩ = some (.int .i64 k):=cell_newb _ _ _ _ 0 _ (by simp) rfl
 have cm:(((w.alloc (.cells #[.int .i64 kind] 3)).alloc (.cells #[.int .i64 m] 3)).alloc (.cells #[.int .i64 k] 3)).cell? ⟨w.heap.size + 1,0,none⟩ = some (.int .i64 m):=by
  rw [World.cell?_alloc_past _ _ _ (by simp)];exact cell_newb _ _ _ _ 0 _ (by simp) rfl
 have ci:(((w.alloc (.cells #[.int .i64 kind] 3)).alloc (.cells #[.int .i64 m] 3)).alloc (.cells #[.int .i64 k] 3)).cell? ⟨w.heap.size,0,none⟩ = some (.int .i64 kind):=by
  rw [World.cell?_alloc_past _ _ _ (by simp <;> omega),World.cell?_alloc_past _ _ _ (by simp)];exact cell_newb _ _ _ _ 0 _ (by simp) rfl
 have hh:=h.keep hb0 (by simp)
 have hs:(((w.alloc (.cells #[.int .i64 kind] 3)).alloc (.cells #[.int .i64 m] 3)).alloc (.cells #[.int .i64 k] 3)).heap.size = w.heap.size + 3:=by simp
 have hF0:Hid (Fr (· = R) w (((w.alloc (.cells #[.int .i64 kind] 3)).alloc (.cells #[.int .i64 m] 3)).alloc (.cells #[.int .i64 k] 3))):=hb0.mono (fun _ _ h=>h.elim)
 clear h hb0
 go_enter Tryz.func145,Tryz.ntmps145
 go_wp2_with fail
 generalize hwb:w.heap.size = wb at *
 generalize ((w.alloc (.cells #[.int .i64 kind] 3)).alloc (.cells #[.int .i64 m] 3)).alloc (.cells #[.int .i64 k] 3) = w1 at *
 have hcmA:∀ ob,(w1.alloc ob).cell? ⟨wb + 1,0,none⟩ = some (.int .i64 m):=fun ob=>(((Fr.refl (fun _=>False) w1).alloc ob).cell (p:=⟨wb + 1,0,none⟩) (block_lt cm) (by simp)).trans cm
 go_region
 have hF2:Fr (fun _=>False) w1 (w1.alloc (.cells #[.pointer (some ⟨R,m * 4,none⟩)] 280)).drew:=((Fr.refl _ w1).alloc _).drew
 have h2':=hh.keep hF2 (by simp)
 have dk:=(hF2.cell (p:=⟨wb + 1 + 1,0,none⟩) (block_lt ck) (by simp)).trans ck
 have dm:=(hF2.cell (p:=⟨wb + 1,0,none⟩) (block_lt cm) (by simp)).trans cm
 have di:=(hF2.cell (p:=⟨wb,0,none⟩) (block_lt ci) (by simp)).trans ci
 have dx:(w1.alloc (.cells #[.pointer (some ⟨R,m * 4,none⟩)] 280)).drew.cell? ⟨wb + 3,0,none⟩ = some (.pointer (some ⟨R,m * 4,none⟩)):=by
  rw [World.cell?_drew];exact cell_newb _ _ _ _ 0 _ (by omega) rfl
 have HF2:Hid (Fr (· = R) w _):=hF0.out.trans hF2 (fun _ _ h=>h) (fun _ _ h=>h.elim)
 clear hF2 hF0 hcmA ck cm ci hh hs
 generalize (w1.alloc (.cells #[.pointer (some ⟨R,m * 4,none⟩)] 280)).drew = w2 at *
 have hm65:m < 65:=by omega
 have d0:=h2'.d m hm65
 have u0:=h2'.u m hm65
 have l0:=h2'.l m hm65
 have z0:=h2'.z (m * 4)
 have z1:=h2'.z (m * 4 + 1)
 have hsz2:=h2'.lt
 have hFl:Fr (· = R) w2 (w2.setCell ⟨R,m * 4 + 1,none⟩ (.int .i32 1)):=(Fr.refl (· = R) w2).setCell (p:=⟨R,m * 4 + 1,none⟩) rfl _
 have hP:PCl (w2.setCell ⟨R,m * 4 + 1,none⟩ (.int .i32 1)) R (m * 4) (wb + 1 + 1) (wb + 3) wb (wb + 1) k kind m :=
  ⟨(hFl.cell (p:=⟨wb + 1 + 1,0,none⟩) (block_lt dk) (by show ¬ wb + 1 + 1 = R;omega)).trans dk,(hFl.cell (p:=⟨wb + 3,0,none⟩) (block_lt dx) (by show ¬ wb + 3 = R;omega)).trans dx,
   (hFl.cell (p:=⟨wb,0,none⟩) (block_lt di) (by show ¬ wb = R;omega)).trans di,(hFl.cell (p:=⟨wb + 1,0,none⟩) (block_lt dm) (by show ¬ wb + 1 = R;omega)).trans dm,
   by omega,by omega,by omega,by omega,fun o=>by rw [World.frozen?_setCell];exact h2'.z o,by omega,by omega,hm1,by omega⟩
 have HCL:=Lib.hid (pcl_even hP (d:=.int .u32 0) (u:=.int .i32 1)
  (by rw [World.cell?_setCell_other _ _ _ _ (addr_ne (by omega))];exact d0) (World.cell?_setCell_same _ _ _ u0) (by rw [World.cell?_setCell_other _ _ _ _ (addr_ne (by omega))];exact l0))
 have HDO:=Lib.hid (do183 (R:=fun w1=>Fr (· = R) (w2.setCell ⟨R,m * 4 + 1,none⟩ (.int .i32 1)) w1 ∧ w1.cell? ⟨R,m * 4,none⟩ = some (.int .u32 0) ∧ w1.cell? ⟨R,m * 4 + 1,none⟩ = some (.int .i32 1) ∧ ∃ a c xs,w1.cell? ⟨R,m * 4 + 3,none⟩ = some (.slice a k c) ∧ BoolsIn w1.heap.size w1 a k xs)
  (.pointer (some ⟨wb + 1 + 1,0,none⟩)) (.pointer (some ⟨wb + 3,0,none⟩)) (.pointer (some ⟨wb,0,none⟩)) (.pointer (some ⟨wb + 1,0,none⟩)) d0 u0 z0 z1
  (HCL.out.mono fun e w' ⟨he,hf,g1,g2,g3,a,c,xs,g4,g5⟩=>⟨he,⟨hf,g1,g2,a,c,xs,by rw [hkk] at g4;exact g4,by rw [hkk] at g5;exact g5⟩,⟨_,g1⟩,g2,g3 _,g3 _⟩))
 have HFl:=Lib.hid hFl
 clear hP hFl HCL d0 u0 l0 z0 z1
 have hne3:wb + 3 ≠ R:=by omega
 go_wp2_with (go_at_call 85;refine HDO.out.mono ?_;rintro e w3 ⟨rfl,w4,⟨f4,g1,g2,a,c,xs,g4,g5⟩,hk4,rfl⟩;have ex4:w4.cell? ⟨wb + 3,0,none⟩ = some (.pointer (some ⟨R,m * 4,none⟩)):=(f4.cell (p:=⟨wb + 3,0,none⟩) (by have:=block_lt dx;exact Nat.lt_of_lt_of_le this HFl.out.size) hne3).trans ((HFl.out.cell (p:=⟨wb + 3,0,none⟩) (block_lt dx) hne3).trans dx))
 go_ret
 have hFin:Fr (· = R) w (((w4.setCell ⟨R,m * 4,none⟩ (.int .u32 1)).setCell ⟨R,m * 4 + 1,none⟩ (.int .i32 0)).drew) :=
  ((((HF2.out.trans HFl.out (fun _ _ h=>h) (fun _ _ h=>h)).trans f4 (U:=(· = R)) (fun _ _ h=>h) (fun _ _ h=>h)).setCell (p:=⟨R,m * 4,none⟩) rfl _).setCell (p:=⟨R,m * 4 + 1,none⟩) rfl _).drew
 have hsz4:w4.heap.size ≤ ((w4.setCell ⟨R,m * 4,none⟩ (.int .u32 1)).setCell ⟨R,m * 4 + 1,none⟩ (.int .i32 0)).drew.heap.size:=(((Fr.refl (fun _=>True) w4).setCell (p:=⟨R,m * 4,none⟩) trivial (.int .u32 1)).setCell (p:=⟨R,m * 4 + 1,none⟩) trivial (.int .i32 0)).drew.size
 refine ⟨⟨a,c,xs,rfl,?_⟩,hFin⟩
 have hb1:=(g5.set (.int .u32 1) g1).set (p:=⟨R,m * 4 + 1,none⟩) (.int .i32 0) (by rw [World.cell?_setCell_other _ _ _ _ (addr_ne (by omega))];exact g2)
 exact (hb1.more hsz4).drew
theorem must_even {w:World} {n m k:Nat} {kind:Int} (h1:1 ≤ m) (h2:m ≤ k) (h3:k ≤ 64) (hn:n ≤ 4611686018427387904) :
  Calls Tryz.prog 101 #[.int .i64 kind,.int .i64 n,.int .i64 m,.int .i64 k] w fun e w'=>(∃ b,e = .returned (.bool b)) ∧ Below w.heap.size w w':=by
 have hz:Tryz.zeroCells245.toList = (List.replicate 65 ()).flatMap fun _=>([.int .u32 0,.int .i32 0,.int .u32 0,.slice none 0 0]:List Value):=by kernel_rfl
 have hat:∀ i,i < 65 → ∀ j,j < 4 → Tryz.zeroCells245.toList[i * 4 + j]? = ([.int .u32 0,.int .i32 0,.int .u32 0,.slice none 0 0]:List Value)[j]?:=fun i hi j hj=>by
  rw [hz]
  exact flatMap_at (fun _=>([.int .u32 0,.int .i32 0,.int .u32 0,.slice none 0 0]:List Value)) 4 (fun _=>rfl) (List.replicate 65 ()) i j (by simpa using hi) hj
 have hR:Rows0 (w.alloc (.cells Tryz.zeroCells245 245)) w.heap.size :=
  ⟨fun i hi=>cell_newb _ _ _ _ (i * 4) _ rfl (hat i hi 0 (by omega)),fun i hi=>cell_newb _ _ _ _ (i * 4 + 1) _ rfl (hat i hi 1 (by omega)),fun i hi=>cell_newb _ _ _ _ (i * 4 + 3) _ rfl (hat i hi 3 (by omega)),fun o=>by simp⟩
 clear hz hat
 obtain ⟨g,hg⟩:∃ g,n % k = g:=⟨_,rfl⟩
 have hgk:g < k:=by rw [← hg];exact Nat.mod_lt _ (by omega)
 have hgI:(n:Int).tmod (k:Int) = (g:Int):=by rw [← hg];rfl
 have hg0:(0:Int) ≤ (g:Int):=by omega
 have hg1:(g:Int) < (k:Int):=by omega
 have hk0:k ≠ 0:=by omega
 have HB:=bel_alloc (Below.refl w.heap.size w) (.cells Tryz.zeroCells245 245)
 have hwl:w.heap.size < (w.alloc (.cells Tryz.zeroCells245 245)).heap.size:=by simp
 clear hg
 go_enter Tryz.func101,Tryz.ntmps101
 go_wp2_with fail
 generalize w.alloc (.cells Tryz.zeroCells245 245) = w1 at *
 have HO:Hid (∀ y,Calls Tryz.prog 145 #[.pointer (some ⟨w.heap.size,0,none⟩),.int .i64 kind,.int .i64 m,.int .i64 k] (w1.drewN y) fun e w'=>(∃ a c xs,e = .returned (.slice a k c) ∧ BoolsIn w'.heap.size w' a k xs) ∧ Fr (· = w.heap.size) (w1.drewN y) w'):=fun y =>
  of_even (hR.keep (T:=fun _=>False) ((Fr.refl _ w1).drewN y) (by simp)) h1 h2 h3
 have HBf:Hid (∀ w',Fr (· = w.heap.size) w1 w' → Below w.heap.size w w'):=fun w' hf=>HB.trans (hf.below (fun i _ h=>by omega) HB.size)
 clear hR HB
 go_region_law (go_simp;go_at_call 145;refine Calls.mono (by first | exact HO.out _ | exact HO.out 1 | exact HO.out 0) ?_;rintro e w4 ⟨⟨a4,c4,xs,rfl,hx4⟩,f4⟩;obtain ⟨b4,o4,rfl,hb4,hc4⟩:=hx4.2 (by omega);have hcg:=hc4 g (by rw [hx4.1];exact hgk))
 all_goals
  go_wp2_with fail
  go_ret
  exact ⟨⟨_,rfl⟩,HBf.out _ (((Fr.refl (· = w.heap.size) w1).drewN _).trans f4 (fun _ _ h=>h) (fun _ _ h=>h))⟩
end
section
open Go.RowKit
structure SKp (w:World) (s z p q k f m j:Nat) (cf:Nat → Bool):Prop where
 c0:∃ kd:Int,w.cell? ⟨s,0,none⟩ = some (.int .i64 kd)
 c1:w.cell? ⟨s,1,none⟩ = some (.int .i64 m)
 c2:w.cell? ⟨s,2,none⟩ = some (.int .i64 k)
 c3:w.cell? ⟨s,3,none⟩ = some (.int .i64 j)
 c4:∃ fl:Int,w.cell? ⟨s,4,none⟩ = some (.int .i64 fl)
 c5:w.cell? ⟨s,5,none⟩ = some (.pointer (some ⟨z,0,none⟩))
 fz:∀ o,w.frozen? ⟨s,o,none⟩ = false
 wn:WN w z p q k f m cf
 sz:s ≠ z
 sp:s ≠ p
 sq:s ≠ q
section
variable {w w':World} {s z p q k f m j:Nat} {cf:Nat → Bool}
theorem SKp.slt (h:SKp w s z p q k f m j cf):s < w.heap.size:=block_lt h.c1
theorem SKp.keep {T:Nat → Prop} (h:SKp w s z p q k f m j cf) (hf:Fr T w w') (hs:¬ T s) (hz:¬ T z) (hp:¬ T p) (hq:¬ T q):SKp w' s z p q k f m j cf :=
 ⟨(by obtain ⟨kd,e⟩:=h.c0;exact ⟨kd,(hf.cell (p:=⟨s,0,none⟩) h.slt hs).trans e⟩),(hf.cell (p:=⟨s,1,none⟩) h.slt hs).trans h.c1,(hf.cell (p:=⟨s,2,none⟩) h.slt hs).trans h.c2,(hf.cell (p:=⟨s,3,none⟩) h.slt hs).trans h.c3,
  (by obtain ⟨fl,e⟩:=h.c4;exact ⟨fl,(hf.cell (p:=⟨s,4,none⟩) h.slt hs).trans e⟩),(hf.cell (p:=⟨s,5,none⟩) h.slt hs).trans h.c5,fun o=>(hf.frozen (p:=⟨s,o,none⟩) h.slt hs).trans (h.fz o),h.wn.keep hf hz hp hq,h.sz,h.sp,h.sq⟩
theorem sdist_is (h:SKp w s z p q k f m j cf) :
  Calls Tryz.prog 102 #[.pointer (some ⟨s,0,none⟩)] w fun e w'=>(∃ d:Int,e = .returned (.int .i64 d) ∧ (d ≤ 1 ∨ (m:Int) ≤ cntT ((ringL k f k cf).drop 1))) ∧ Below w.heap.size w w':=by
 have c5:=h.c5
 have HD:=Lib.hid (wdist_is h.wn)
 clear h
 generalize hY:cntT ((ringL k f k cf).drop 1) = Y at *
 clear hY
 go_enter Tryz.func102,Tryz.ntmps102
 go_wp2_with (go_at_call 146;refine HD.out.mono ?_;rintro e w1 ⟨⟨d,rfl,hd⟩,hb⟩)
 go_ret
 exact ⟨⟨d,rfl,hd⟩,hb⟩
theorem smust_is (h:SKp w s z p q k f m j cf) (hj:j ≤ 4611686018427387904) :
  Calls Tryz.prog 66 #[.pointer (some ⟨s,0,none⟩)] w fun e w'=>(∃ b:Bool,e = .returned (.bool b) ∧ (b = true ∨ (m:Int) ≤ cntT ((ringL k f k cf).drop 1))) ∧ Below w.heap.size w w':=by
 obtain ⟨kd,hkd⟩:=h.c0
 have HM:=Lib.hid (fun W=>must_even (w:=W) (n:=j) (m:=m) (k:=k) (kind:=kd) (by have:=h.wn.m1;omega) (by have:=h.wn.mlk;omega) h.wn.k64 hj)
 have HK:=Lib.hid (fun W (hb:Below w.heap.size w W)=>h.keep (T:=fun _=>False) (Fr.of_below hb) (by simp) (by simp) (by simp) (by simp))
 have HD:=Lib.hid (fun W (hb:Below w.heap.size w W)=>sdist_is (HK.out W hb))
 have HQ:Hid (∀ w',Below w.heap.size w w' → w'.cell? ⟨s,0,none⟩ = some (.int .i64 kd) ∧ w'.cell? ⟨s,3,none⟩ = some (.int .i64 j) ∧ w'.cell? ⟨s,1,none⟩ = some (.int .i64 m) ∧ w'.cell? ⟨s,2,none⟩ = some (.int .i64 k) ∧ Below w.heap.size w w'):=fun W hb =>
  ⟨(hb.cell (p:=⟨s,0,none⟩) (block_lt hkd)).trans hkd,(HK.out W hb).c3,(HK.out W hb).c1,(HK.out W hb).c2,hb⟩
 have hb0:=Below.refl w.heap.size w
 have HB0:=Lib.hid hb0
 clear h hj hb0 hkd
 generalize hY:cntT ((ringL k f k cf).drop 1) = Y at *
 clear hY
 go_enter Tryz.func66,Tryz.ntmps66
 go_wp2_with fail
 refine wp_region_held_drew (S:=(fun w'=>w'.cell? ⟨s,0,none⟩ = some (.int .i64 kd) ∧ w'.cell? ⟨s,3,none⟩ = some (.int .i64 j) ∧ w'.cell? ⟨s,1,none⟩ = some (.int .i64 m) ∧ w'.cell? ⟨s,2,none⟩ = some (.int .i64 k) ∧ Below w.heap.size w w')) (by kernel_rfl) ?hS0 (fun hHeld=>?_)
 case hS0=>(try dsimp only);exact HQ.out _ (bel_drew HB0.out)
 refine wtk (i:=0) ?_
 try simp only [Act.put,List.setIfInBounds_toArray,List.set]
 refine wtk (i:=1) ?_
 try simp only [Act.put,List.setIfInBounds_toArray,List.set]
 refine wtk (i:=2) ?_
 try simp only [Act.put,List.setIfInBounds_toArray,List.set]
 refine wtk (i:=3) ?_
 try simp only [Act.put,List.setIfInBounds_toArray,List.set]
 refine wtk (i:=4) ?_
 try simp only [Act.put,List.setIfInBounds_toArray,List.set]
 refine wtk (i:=5) ?_
 try simp only [Act.put,List.setIfInBounds_toArray,List.set]
 refine wtk (i:=6) ?_
 try simp only [Act.put,List.setIfInBounds_toArray,List.set]
 refine wtk (i:=7) ?_
 try simp only [Act.put,List.setIfInBounds_toArray,List.set]
 refine wtk (i:=8) ?_
 try simp only [Act.put,List.setIfInBounds_toArray,List.set]
 refine wtk (i:=9) ?_
 try simp only [Act.put,List.setIfInBounds_toArray,List.set]
 refine wtk (i:=10) ?_
 try simp only [Act.put,List.setIfInBounds_toArray,List.set]
 refine wtk (i:=11) ?_
 try simp only [Act.put,List.setIfInBounds_toArray,List.set]
 refine wtk (i:=12) ?_
 try simp only [Act.put,List.setIfInBounds_toArray,List.set]
 refine wtk (i:=13) ?_
 try simp only [Act.put,List.setIfInBounds_toArray,List.set]
 refine wtk (i:=14) ?_
 try simp only [Act.put,List.setIfInBounds_toArray,List.set]
 refine wtk (i:=15) ?_
 try simp only [Act.put,List.setIfInBounds_toArray,List.set]
 refine wpAnyH_ready (rs:=[16]) (by kernel_rfl) (by simp) ?_
 refine arc (fun K hK=>?_) AllReadyH.nil
 go_simp;go_at_call 101;refine Calls.mono (HM.out _) ?_;rintro e w5 ⟨⟨b,rfl⟩,hb5'⟩;have hb5:=hHeld.2.2.2.2.trans (hb5'.mono hHeld.2.2.2.2.size)
 refine hK.out _ _ ?hS17 (fun hHeld2=>?hr17)
 case hS17=>(try dsimp only);exact HQ.out _ hb5
 clear hK K hHeld
 have hHeld:=hHeld2
 clear hHeld2
 try simp only [Act.put,List.setIfInBounds_toArray,List.set]
 cases b
 ·skip
  refine wtk (i:=17) ?_
  try simp only [Act.put,List.setIfInBounds_toArray,List.set]
  refine wtk (i:=18) ?_
  try simp only [Act.put,List.setIfInBounds_toArray,List.set]
  refine wpAnyH_ready (rs:=[19]) (by kernel_rfl) (by simp) ?_
  refine arc (fun K hK=>?_) AllReadyH.nil
  go_simp;go_at_call 102;refine Calls.mono (HD.out _ hb5) ?_;rintro e w6 ⟨⟨d,rfl,hd⟩,hb6'⟩;have hb6:=hb5.trans (hb6'.mono hb5.size)
  refine hK.out _ _ ?hS20 (fun hHeld2=>?hr20)
  case hS20=>(try dsimp only);exact HQ.out _ hb6
  clear hK K hHeld
  have hHeld:=hHeld2
  clear hHeld2
  try simp only [Act.put,List.setIfInBounds_toArray,List.set]
  refine wtk (i:=20) ?_
  try simp only [Act.put,List.setIfInBounds_toArray,List.set]
  refine wtk (i:=21) ?_
  try simp only [Act.put,List.setIfInBounds_toArray,List.set]
  refine wtk (i:=22) ?_
  try simp only [Act.put,List.setIfInBounds_toArray,List.set]
  refine wpAnyH_done (by kernel_rfl) ?_ _
  go_wp2_with fail
  go_ret
  refine ⟨⟨_,rfl,?_⟩,hb6⟩
  by_cases h:d ≤ 1
  ·exact .inl (by simpa using h)
  ·exact .inr (hd.resolve_left h)
 ·skip
  refine wtk (i:=17) ?_
  try simp only [Act.put,List.setIfInBounds_toArray,List.set]
  refine wun (i:=18) ?_
  try simp only [Act.put,List.setIfInBounds_toArray,List.set]
  refine wun (i:=19) ?_
  try simp only [Act.put,List.setIfInBounds_toArray,List.set]
  refine wun (i:=20) ?_
  try simp only [Act.put,List.setIfInBounds_toArray,List.set]
  refine wtk (i:=21) ?_
  try simp only [Act.put,List.setIfInBounds_toArray,List.set]
  refine wtk (i:=22) ?_
  try simp only [Act.put,List.setIfInBounds_toArray,List.set]
  refine wpAnyH_done (by kernel_rfl) ?_ _
  go_wp2_with fail
  go_ret
  exact ⟨⟨_,rfl,.inl rfl⟩,hb5⟩
theorem spush_is (h:SKp w s z p q k f m j cf) (hj:j ≤ 4611686018427387904) (x:Bool) {g:Nat} (hg:(f + 1) % k = g) :
  Calls Tryz.prog 95 #[.pointer (some ⟨s,0,none⟩),.bool x] w fun e w'=>e = .returned (.tuple #[]) ∧ SKp w' s z p q k g m (j + 1) (upd cf f x) ∧ Fr (fun i=>i = s ∨ i = p ∨ i = q) w w':=by
 have c3:=h.c3
 have c5:=h.c5
 have z3:=h.fz 3
 have z4:=h.fz 4
 have hj1:(0:Int) ≤ (j:Int):=by omega
 have hj2:(j:Int) ≤ 4611686018427387904:=by omega
 have hF1:Fr (· = s) w (w.setCell ⟨s,3,none⟩ (.int .i64 ((j:Int) + 1))):=(Fr.refl (· = s) w).setCell (p:=⟨s,3,none⟩) rfl _
 have hW1:=h.wn.keep hF1 (fun e=>h.sz e.symm) (fun e=>h.sp e.symm) (fun e=>h.sq e.symm)
 have HP:=Lib.hid (wpush_is hW1 x hg)
 have hsp:=h.sp
 have hsq:=h.sq
 have hsz:=h.sz
 obtain ⟨fl,c4⟩:=h.c4
 obtain ⟨kd,c0⟩:=h.c0
 have c1:=h.c1
 have c2:=h.c2
 have hsl:=h.slt
 have HZ:=Lib.hid h.fz
 have HF1:=Lib.hid hF1
 have hspq:¬ (s = p ∨ s = q):=by omega
 clear h hW1 hF1
 have k0:(w.setCell ⟨s,3,none⟩ (.int .i64 ((j:Int) + 1))).cell? ⟨s,0,none⟩ = some (.int .i64 kd):=by rw [World.cell?_setCell_other _ _ _ _ (addr_ne (by omega))];exact c0
 have k1:(w.setCell ⟨s,3,none⟩ (.int .i64 ((j:Int) + 1))).cell? ⟨s,1,none⟩ = some (.int .i64 m):=by rw [World.cell?_setCell_other _ _ _ _ (addr_ne (by omega))];exact c1
 have k2:(w.setCell ⟨s,3,none⟩ (.int .i64 ((j:Int) + 1))).cell? ⟨s,2,none⟩ = some (.int .i64 k):=by rw [World.cell?_setCell_other _ _ _ _ (addr_ne (by omega))];exact c2
 have k3:(w.setCell ⟨s,3,none⟩ (.int .i64 ((j:Int) + 1))).cell? ⟨s,3,none⟩ = some (.int .i64 ((j:Int) + 1)):=World.cell?_setCell_same _ _ _ c3
 have k4:(w.setCell ⟨s,3,none⟩ (.int .i64 ((j:Int) + 1))).cell? ⟨s,4,none⟩ = some (.int .i64 fl):=by rw [World.cell?_setCell_other _ _ _ _ (addr_ne (by omega))];exact c4
 have k5:(w.setCell ⟨s,3,none⟩ (.int .i64 ((j:Int) + 1))).cell? ⟨s,5,none⟩ = some (.pointer (some ⟨z,0,none⟩)):=by rw [World.cell?_setCell_other _ _ _ _ (addr_ne (by omega))];exact c5
 have kz:Hid (∀ o,(w.setCell ⟨s,3,none⟩ (.int .i64 ((j:Int) + 1))).frozen? ⟨s,o,none⟩ = false):=fun o=>by rw [World.frozen?_setCell];exact HZ.out o
 have ksl:s < (w.setCell ⟨s,3,none⟩ (.int .i64 ((j:Int) + 1))).heap.size:=block_lt k0
 go_enter Tryz.func95,Tryz.ntmps95
 go_wp2_with (first | (go_at_call 139;refine HP.out.mono ?_;rintro e w2 ⟨rfl,h2,f2⟩;have e5:=(f2.cell (p:=⟨s,5,none⟩) ksl hspq).trans k5;have e4:=(f2.cell (p:=⟨s,4,none⟩) ksl hspq).trans k4;have y4:=(f2.frozen (p:=⟨s,4,none⟩) ksl hspq).trans (kz.out 4)) | (go_at_call 140;refine (wfails_any h2).mono ?_;rintro e w3 ⟨⟨b,rfl⟩,b3⟩;have e4':=((Fr.of_below (S:=fun _=>False) b3).cell (p:=⟨s,4,none⟩) (block_lt e4) (by simp)).trans e4;have y4':=((Fr.of_below (S:=fun _=>False) b3).frozen (p:=⟨s,4,none⟩) (block_lt e4) (by simp)).trans y4))
 all_goals
  have hF2:Fr (fun i=>i = s ∨ i = p ∨ i = q) w w2:=HF1.out.trans f2 (fun _ _ h=>.inl h) (fun _ _ h=>.inr h)
  have hF3:Fr (fun i=>i = s ∨ i = p ∨ i = q) w w3:=hF2.trans (Fr.of_below (S:=fun _=>False) b3) (fun _ _ h=>h) (fun _ _ h=>h.elim)
  have H2:SKp w2 s z p q k g m (j + 1) (upd cf f x):=⟨⟨kd,(f2.cell (p:=⟨s,0,none⟩) ksl hspq).trans k0⟩,(f2.cell (p:=⟨s,1,none⟩) ksl hspq).trans k1,(f2.cell (p:=⟨s,2,none⟩) ksl hspq).trans k2,(f2.cell (p:=⟨s,3,none⟩) ksl hspq).trans k3,⟨_,e4⟩,e5,fun o=>(f2.frozen (p:=⟨s,o,none⟩) ksl hspq).trans (kz.out o),h2,hsz,hsp,hsq⟩
  have H3:=H2.keep (T:=fun _=>False) (Fr.of_below b3) (by simp) (by simp) (by simp) (by simp)
  go_end0
  first
   | exact ⟨rfl,H3,hF3⟩
   |(refine ⟨rfl,⟨?_,?_,?_,?_,⟨_,World.cell?_setCell_same _ _ _ e4'⟩,?_,fun o=>by rw [World.frozen?_setCell];exact H3.fz o,H3.wn.keep ((Fr.refl (· = s) w3).setCell (p:=⟨s,4,none⟩) rfl _) (fun e=>hsz e.symm) (fun e=>hsp e.symm) (fun e=>hsq e.symm),hsz,hsp,hsq⟩,hF3.setCell (p:=⟨s,4,none⟩) (.inl rfl) _⟩
     ·rw [World.cell?_setCell_other _ _ _ _ (addr_ne (by omega))];exact H3.c0
     ·rw [World.cell?_setCell_other _ _ _ _ (addr_ne (by omega))];exact H3.c1
     ·rw [World.cell?_setCell_other _ _ _ _ (addr_ne (by omega))];exact H3.c2
     ·rw [World.cell?_setCell_other _ _ _ _ (addr_ne (by omega))];exact H3.c3
     ·rw [World.cell?_setCell_other _ _ _ _ (addr_ne (by omega))];exact H3.c5)
theorem right_even (kd:Int) (hkd:kd = 1 ∨ kd = 2) (m k:Nat) (w:World) (h1:1 ≤ m) (h2:m ≤ k) (h3:k ≤ 64) :
  Calls Tryz.prog 33 #[.int .i64 kd,.int .i64 m,.int .i64 k] w fun e w'=>e = .returned (.bool true) ∧ w' = w:=by
 have d1:decide ((m:Int) ≥ 1) = true:=decide_eq_true (by omega)
 have d2:decide ((m:Int) ≤ (k:Int)) = true:=decide_eq_true (by omega)
 have d3:decide ((k:Int) ≤ 64) = true:=decide_eq_true (by omega)
 rcases hkd with rfl | rfl
 all_goals
  go_enter Tryz.func33,Tryz.ntmps33
  go_wp2
  go_ret
  exact ⟨rfl,rfl⟩
theorem snew_even (kd:Int) (hkd:kd = 1 ∨ kd = 2) (m k:Nat) (w:World) (h1:1 ≤ m) (h2:m ≤ k) (h3:k ≤ 64) :
  Calls Tryz.prog 35 #[.int .i64 kd,.int .i64 m,.int .i64 k] w fun e w'=>(∃ s z p q cf,e = .returned (.tuple #[.pointer (some ⟨s,0,none⟩),.int .i64 0]) ∧ SKp w' s z p q k 0 m 0 cf ∧ ringL k 0 k cf = List.replicate k true ∧ w.heap.size ≤ s ∧ w.heap.size ≤ z ∧ w.heap.size ≤ p ∧ w.heap.size ≤ q) ∧ Below w.heap.size w w':=by
 have HR:=Lib.hid (fun w=>right_even kd hkd m k w h1 h2 h3)
 have HN:=Lib.hid (fun w=>wnew_good m k w h1 h2 h3)
 go_enter Tryz.func35,Tryz.ntmps35
 go_wp2_with (first | (go_at_call 33;refine (HR.out _).mono ?_;rintro e w' ⟨rfl,rfl⟩) | (go_at_call 55;refine (HN.out _).mono ?_;rintro e w2 ⟨⟨z,p,q,cf,rfl,hw,hr,hz,hp,hq,hz2⟩,hb⟩))
 go_ret2
 have hF:Fr (fun _=>False) w2 (w2.alloc (.cells #[.int .i64 kd,.int .i64 m,.int .i64 k,.int .i64 0,.int .i64 0,.pointer (some ⟨z,0,none⟩)] 140)):=(Fr.refl _ w2).alloc _
 have hpl:=hw.rb.plt
 have hql:=hw.rb.qlt
 exact ⟨⟨w2.heap.size,z,p,q,cf,rfl,⟨⟨kd,cell_newb _ _ _ _ 0 _ rfl rfl⟩,cell_newb _ _ _ _ 1 _ rfl rfl,cell_newb _ _ _ _ 2 _ rfl rfl,cell_newb _ _ _ _ 3 _ rfl rfl,⟨0,cell_newb _ _ _ _ 4 _ rfl rfl⟩,cell_newb _ _ _ _ 5 _ rfl rfl,fun o=>by simp,hw.keep hF (by simp) (by simp) (by simp),by omega,by omega,by omega⟩,hr,hb.size,hz,hp,hq⟩,hb.alloc hb.size _⟩
end
end
end Go.Proofs.YtnoahekcemfmcaaGreatDoor
