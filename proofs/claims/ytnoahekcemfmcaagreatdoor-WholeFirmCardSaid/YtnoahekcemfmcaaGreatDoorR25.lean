/- A part of the walk: Xi. -/
import Derived.Test.YtnoahekcemfmcaaGreatDoorR24
namespace Go.Proofs.YtnoahekcemfmcaaGreatDoor
set_option linter.unusedVariables false
set_option linter.unusedSimpArgs false
set_option maxHeartbeats 80000000
set_option maxRecDepth 100000
section
open Go.RowKit
section
variable {B n:Nat} {A:XFix} {bu:Int} {tk:Nat → Tk} {w w':World} {s:St} {out:List Ev} {Mx:Nat} {col:Nat → Nat} {F:Nat → Prop} {hm:List Q} {so:Value} {jbk:Nat → Nat} {gs:List Gate} {kj:Nat → Option Jb} {T:Nat → Prop}
theorem passed_is (h:XW B A bu n tk w s out Mx col F hm so jbk gs kj) (i:Nat) (J:Jb) (hi:i < n) (hJ:s.job i = some J) (ho:out.length ≤ 100000000) :
  Calls Tryz.prog 72 #[.pointer (some ⟨A.x,0,none⟩),.int .i64 i] w fun e w'=>e = .returned (.tuple #[]) ∧
   ∃ col' so',XW B A bu n tk w' s (out ++ [tell tk s 5 i J]) Mx col' F hm so' jbk gs kj ∧ XR col w col' w':=by
 have HT:=Lib.hid (tell_is h 5 i J (by omega) (by omega) hi hJ ho)
 clear h
 go_enter Tryz.func72,Tryz.ntmps72
 go_wp2_with (go_at_call 69;refine HT.out.mono ?_;rintro e w1 ⟨rfl,hX⟩)
 go_end0
 exact ⟨rfl,hX⟩
theorem done_is (h:XW B A bu n tk w s out Mx col F hm so jbk gs kj) (i:Nat) (J:Jb) (hi:i < n) (hJ:s.job i = some J) (ho:out.length ≤ 100000000) (hMx:Mx < 1000000) :
  Calls Tryz.prog 75 #[.pointer (some ⟨A.x,0,none⟩),.int .i64 i] w fun e w'=>e = .returned (.tuple #[]) ∧
   ∃ col' so',XW B A bu n tk w' (gone s i true) (out ++ [tell tk s 8 i J]) (Mx + 1) col' F (hm.filter fun x=>!(x.2.2.2 == (i:Int))) so' jbk gs (upd kj i none) ∧ XR col w col' w':=by
 have HT:=Lib.hid (gone_is h 8 i J true (by omega) (by omega) hi hJ ho hMx)
 clear h
 go_enter Tryz.func75,Tryz.ntmps75
 go_wp2_with (go_at_call 60;refine HT.out.mono ?_;rintro e w1 ⟨rfl,hX⟩)
 go_end0
 exact ⟨rfl,hX⟩
theorem fail_10 (h:XW B A bu n tk w s out Mx col F hm so jbk gs kj) (i:Nat) (J:Jb) (hi:i < n) (hJ:s.job i = some J) (ho:out.length ≤ 100000000) (hMx:Mx < 1000000) (hov:J.over = true) (hst:J.struck = true) (hl:J.left = 0) :
  Calls Tryz.prog 74 #[.pointer (some ⟨A.x,0,none⟩),.int .i64 i] w fun e w'=>e = .returned (.tuple #[]) ∧ ∃ col' so',XW B A bu n tk w' (gone s i false) (out ++ [tell tk s 10 i J]) (Mx + 1) col' F (hm.filter fun x=>!(x.2.2.2 == (i:Int))) so' jbk gs (upd kj i none) ∧ XR col w col' w':=by
 have hi0:(0:Int) ≤ (i:Int):=by omega
 have hiI:(i:Int) < (n:Int):=by omega
 have hn16:=h.c.n16
 have f3:=h.f.f3
 have hrow:=h.jb.row i hi
 rw [hJ] at hrow
 have hrow':w.cell? ⟨A.jb,i,none⟩ = some (.pointer (some ⟨jbk i,0,none⟩)):=hrow
 have hrg:=h.jb.rg i J hi hJ
 have hlb:(J.left == 0) = true:=by simpa using hl
 have hbz:Below w.heap.size w ((w.alloc (.cells #[.int .i64 0,.int .i64 0,.int .i64 0,.int .i64 0,.bool false,.bool false,.bool false,.string ⟨#[]⟩,.int .i64 0,.int .i64 0,.int .i64 0,.int .i64 0,.int .i64 0,.int .i64 0,.int .i64 0,.int .i64 0,.int .i64 0,.int .i64 0,.int .i64 0,.int .i64 0,.int .i64 0,.bool false,.int .i64 0] 59)).setCells w.heap.size 0 (jbc i (tk i) J)):=below_setCells (Nat.le_refl _) _ _ _ (bel_alloc (Below.refl _ _) _)
 have H2:Hid (((w.alloc (.cells #[.int .i64 0,.int .i64 0,.int .i64 0,.int .i64 0,.bool false,.bool false,.bool false,.string ⟨#[]⟩,.int .i64 0,.int .i64 0,.int .i64 0,.int .i64 0,.int .i64 0,.int .i64 0,.int .i64 0,.int .i64 0,.int .i64 0,.int .i64 0,.int .i64 0,.int .i64 0,.int .i64 0,.bool false,.int .i64 0] 59)).setCells w.heap.size 0 (jbc i (tk i) J)).rangeAt w.heap.size 0 (jbc i (tk i) J) ∧ XW B A bu n tk ((w.alloc (.cells #[.int .i64 0,.int .i64 0,.int .i64 0,.int .i64 0,.bool false,.bool false,.bool false,.string ⟨#[]⟩,.int .i64 0,.int .i64 0,.int .i64 0,.int .i64 0,.int .i64 0,.int .i64 0,.int .i64 0,.int .i64 0,.int .i64 0,.int .i64 0,.int .i64 0,.int .i64 0,.int .i64 0,.bool false,.int .i64 0] 59)).setCells w.heap.size 0 (jbc i (tk i) J)) s out Mx col F hm so jbk gs kj) :=
  ⟨World.rangeAt_setCells_same _ _ _ (jbc i (tk i) J) (th_new w #[.int .i64 0,.int .i64 0,.int .i64 0,.int .i64 0,.bool false,.bool false,.bool false,.string ⟨#[]⟩,.int .i64 0,.int .i64 0,.int .i64 0,.int .i64 0,.int .i64 0,.int .i64 0,.int .i64 0,.int .i64 0,.int .i64 0,.int .i64 0,.int .i64 0,.int .i64 0,.int .i64 0,.bool false,.int .i64 0] 59 w.heap.size 23 rfl (by simp)),h.below hbz⟩
 have HR:=Lib.hid (XR.of_below (col:=col) hbz)
 have HJ:=Lib.hid hJ
 clear h hJ hrow hbz
 go_enter Tryz.func74,Tryz.ntmps74
 go_wp2_with (first | (refine wpList_load_mid rfl 59 _ rfl (jbk i) 0 rfl (jbc i (tk i) J) _ hrg Tryz.underlying59 rfl Tryz.size59 ?_;clear hrg) | (refine wpList_store_mid rfl 59 _ _ rfl w.heap.size 0 (jbc i (tk i) J).toArray rfl rfl (th_new w #[.int .i64 0,.int .i64 0,.int .i64 0,.int .i64 0,.bool false,.bool false,.bool false,.string ⟨#[]⟩,.int .i64 0,.int .i64 0,.int .i64 0,.int .i64 0,.int .i64 0,.int .i64 0,.int .i64 0,.int .i64 0,.int .i64 0,.int .i64 0,.int .i64 0,.int .i64 0,.int .i64 0,.bool false,.int .i64 0] 59 w.heap.size 23 rfl (by simp)) Tryz.size59 (by simp [Value.oneCell',jbc]) ?_;try simp only [List.toList_toArray];generalize World.setCells (w.alloc (.cells #[.int .i64 0,.int .i64 0,.int .i64 0,.int .i64 0,.bool false,.bool false,.bool false,.string ⟨#[]⟩,.int .i64 0,.int .i64 0,.int .i64 0,.int .i64 0,.int .i64 0,.int .i64 0,.int .i64 0,.int .i64 0,.int .i64 0,.int .i64 0,.int .i64 0,.int .i64 0,.int .i64 0,.bool false,.int .i64 0] 59)) w.heap.size 0 (jbc i (tk i) J) = w2 at H2 HR ⊢;have c5:=H2.out.1 5 _ rfl;rw [hov] at c5;have c21:=H2.out.1 21 _ rfl;rw [hst] at c21;have c20:=H2.out.1 20 _ rfl;simp only [Nat.zero_add] at c5 c21 c20;have HG:=Lib.hid (gone_is H2.out.2 10 i J false (by omega) (by omega) hi HJ.out ho hMx)) | (go_at_call 60;refine HG.out.mono ?_;rintro e w3 ⟨rfl,col3,so3,H3,R3⟩))
 first | go_end0 | refine bodyPost_ret (results_none rfl _ _ _) rfl ?_
 exact ⟨rfl,col3,so3,H3,HR.out.trans R3⟩
theorem fail_11a (h:XW B A bu n tk w s out Mx col F hm so jbk gs kj) (i:Nat) (J:Jb) (hi:i < n) (hJ:s.job i = some J) (ho:out.length ≤ 100000000) (hMx:Mx < 1000000) (hov:J.over = false) (hmu:J.must = false) :
  Calls Tryz.prog 74 #[.pointer (some ⟨A.x,0,none⟩),.int .i64 i] w fun e w'=>e = .returned (.tuple #[]) ∧ ∃ col' so',XW B A bu n tk w' (gone s i false) (out ++ [tell tk s 11 i J]) (Mx + 1) col' F (hm.filter fun x=>!(x.2.2.2 == (i:Int))) so' jbk gs (upd kj i none) ∧ XR col w col' w':=by
 have hi0:(0:Int) ≤ (i:Int):=by omega
 have hiI:(i:Int) < (n:Int):=by omega
 have hn16:=h.c.n16
 have f3:=h.f.f3
 have hrow:=h.jb.row i hi
 rw [hJ] at hrow
 have hrow':w.cell? ⟨A.jb,i,none⟩ = some (.pointer (some ⟨jbk i,0,none⟩)):=hrow
 have hrg:=h.jb.rg i J hi hJ
 have hbz:Below w.heap.size w ((w.alloc (.cells #[.int .i64 0,.int .i64 0,.int .i64 0,.int .i64 0,.bool false,.bool false,.bool false,.string ⟨#[]⟩,.int .i64 0,.int .i64 0,.int .i64 0,.int .i64 0,.int .i64 0,.int .i64 0,.int .i64 0,.int .i64 0,.int .i64 0,.int .i64 0,.int .i64 0,.int .i64 0,.int .i64 0,.bool false,.int .i64 0] 59)).setCells w.heap.size 0 (jbc i (tk i) J)):=below_setCells (Nat.le_refl _) _ _ _ (bel_alloc (Below.refl _ _) _)
 have H2:Hid (((w.alloc (.cells #[.int .i64 0,.int .i64 0,.int .i64 0,.int .i64 0,.bool false,.bool false,.bool false,.string ⟨#[]⟩,.int .i64 0,.int .i64 0,.int .i64 0,.int .i64 0,.int .i64 0,.int .i64 0,.int .i64 0,.int .i64 0,.int .i64 0,.int .i64 0,.int .i64 0,.int .i64 0,.int .i64 0,.bool false,.int .i64 0] 59)).setCells w.heap.size 0 (jbc i (tk i) J)).rangeAt w.heap.size 0 (jbc i (tk i) J) ∧ XW B A bu n tk ((w.alloc (.cells #[.int .i64 0,.int .i64 0,.int .i64 0,.int .i64 0,.bool false,.bool false,.bool false,.string ⟨#[]⟩,.int .i64 0,.int .i64 0,.int .i64 0,.int .i64 0,.int .i64 0,.int .i64 0,.int .i64 0,.int .i64 0,.int .i64 0,.int .i64 0,.int .i64 0,.int .i64 0,.int .i64 0,.bool false,.int .i64 0] 59)).setCells w.heap.size 0 (jbc i (tk i) J)) s out Mx col F hm so jbk gs kj) :=
  ⟨World.rangeAt_setCells_same _ _ _ (jbc i (tk i) J) (th_new w #[.int .i64 0,.int .i64 0,.int .i64 0,.int .i64 0,.bool false,.bool false,.bool false,.string ⟨#[]⟩,.int .i64 0,.int .i64 0,.int .i64 0,.int .i64 0,.int .i64 0,.int .i64 0,.int .i64 0,.int .i64 0,.int .i64 0,.int .i64 0,.int .i64 0,.int .i64 0,.int .i64 0,.bool false,.int .i64 0] 59 w.heap.size 23 rfl (by simp)),h.below hbz⟩
 have HR:=Lib.hid (XR.of_below (col:=col) hbz)
 have HJ:=Lib.hid hJ
 clear h hJ hrow hbz
 go_enter Tryz.func74,Tryz.ntmps74
 go_wp2_with (first | (refine wpList_load_mid rfl 59 _ rfl (jbk i) 0 rfl (jbc i (tk i) J) _ hrg Tryz.underlying59 rfl Tryz.size59 ?_;clear hrg) | (refine wpList_store_mid rfl 59 _ _ rfl w.heap.size 0 (jbc i (tk i) J).toArray rfl rfl (th_new w #[.int .i64 0,.int .i64 0,.int .i64 0,.int .i64 0,.bool false,.bool false,.bool false,.string ⟨#[]⟩,.int .i64 0,.int .i64 0,.int .i64 0,.int .i64 0,.int .i64 0,.int .i64 0,.int .i64 0,.int .i64 0,.int .i64 0,.int .i64 0,.int .i64 0,.int .i64 0,.int .i64 0,.bool false,.int .i64 0] 59 w.heap.size 23 rfl (by simp)) Tryz.size59 (by simp [Value.oneCell',jbc]) ?_;try simp only [List.toList_toArray];generalize World.setCells (w.alloc (.cells #[.int .i64 0,.int .i64 0,.int .i64 0,.int .i64 0,.bool false,.bool false,.bool false,.string ⟨#[]⟩,.int .i64 0,.int .i64 0,.int .i64 0,.int .i64 0,.int .i64 0,.int .i64 0,.int .i64 0,.int .i64 0,.int .i64 0,.int .i64 0,.int .i64 0,.int .i64 0,.int .i64 0,.bool false,.int .i64 0] 59)) w.heap.size 0 (jbc i (tk i) J) = w2 at H2 HR ⊢;have c5:=H2.out.1 5 _ rfl;rw [hov] at c5;have c4:=H2.out.1 4 _ rfl;rw [hmu] at c4;simp only [Nat.zero_add] at c5 c4;have HG:=Lib.hid (gone_is H2.out.2 11 i J false (by omega) (by omega) hi HJ.out ho hMx)) | (go_at_call 60;refine HG.out.mono ?_;rintro e w3 ⟨rfl,col3,so3,H3,R3⟩))
 first | go_end0 | refine bodyPost_ret (results_none rfl _ _ _) rfl ?_
 exact ⟨rfl,col3,so3,H3,HR.out.trans R3⟩
theorem fail_11b (h:XW B A bu n tk w s out Mx col F hm so jbk gs kj) (i:Nat) (J:Jb) (hi:i < n) (hJ:s.job i = some J) (ho:out.length ≤ 100000000) (hMx:Mx < 1000000) (hov:J.over = true) (hst:J.struck = false) (hmu:J.must = false) :
  Calls Tryz.prog 74 #[.pointer (some ⟨A.x,0,none⟩),.int .i64 i] w fun e w'=>e = .returned (.tuple #[]) ∧ ∃ col' so',XW B A bu n tk w' (gone s i false) (out ++ [tell tk s 11 i J]) (Mx + 1) col' F (hm.filter fun x=>!(x.2.2.2 == (i:Int))) so' jbk gs (upd kj i none) ∧ XR col w col' w':=by
 have hi0:(0:Int) ≤ (i:Int):=by omega
 have hiI:(i:Int) < (n:Int):=by omega
 have hn16:=h.c.n16
 have f3:=h.f.f3
 have hrow:=h.jb.row i hi
 rw [hJ] at hrow
 have hrow':w.cell? ⟨A.jb,i,none⟩ = some (.pointer (some ⟨jbk i,0,none⟩)):=hrow
 have hrg:=h.jb.rg i J hi hJ
 have hbz:Below w.heap.size w ((w.alloc (.cells #[.int .i64 0,.int .i64 0,.int .i64 0,.int .i64 0,.bool false,.bool false,.bool false,.string ⟨#[]⟩,.int .i64 0,.int .i64 0,.int .i64 0,.int .i64 0,.int .i64 0,.int .i64 0,.int .i64 0,.int .i64 0,.int .i64 0,.int .i64 0,.int .i64 0,.int .i64 0,.int .i64 0,.bool false,.int .i64 0] 59)).setCells w.heap.size 0 (jbc i (tk i) J)):=below_setCells (Nat.le_refl _) _ _ _ (bel_alloc (Below.refl _ _) _)
 have H2:Hid (((w.alloc (.cells #[.int .i64 0,.int .i64 0,.int .i64 0,.int .i64 0,.bool false,.bool false,.bool false,.string ⟨#[]⟩,.int .i64 0,.int .i64 0,.int .i64 0,.int .i64 0,.int .i64 0,.int .i64 0,.int .i64 0,.int .i64 0,.int .i64 0,.int .i64 0,.int .i64 0,.int .i64 0,.int .i64 0,.bool false,.int .i64 0] 59)).setCells w.heap.size 0 (jbc i (tk i) J)).rangeAt w.heap.size 0 (jbc i (tk i) J) ∧ XW B A bu n tk ((w.alloc (.cells #[.int .i64 0,.int .i64 0,.int .i64 0,.int .i64 0,.bool false,.bool false,.bool false,.string ⟨#[]⟩,.int .i64 0,.int .i64 0,.int .i64 0,.int .i64 0,.int .i64 0,.int .i64 0,.int .i64 0,.int .i64 0,.int .i64 0,.int .i64 0,.int .i64 0,.int .i64 0,.int .i64 0,.bool false,.int .i64 0] 59)).setCells w.heap.size 0 (jbc i (tk i) J)) s out Mx col F hm so jbk gs kj) :=
  ⟨World.rangeAt_setCells_same _ _ _ (jbc i (tk i) J) (th_new w #[.int .i64 0,.int .i64 0,.int .i64 0,.int .i64 0,.bool false,.bool false,.bool false,.string ⟨#[]⟩,.int .i64 0,.int .i64 0,.int .i64 0,.int .i64 0,.int .i64 0,.int .i64 0,.int .i64 0,.int .i64 0,.int .i64 0,.int .i64 0,.int .i64 0,.int .i64 0,.int .i64 0,.bool false,.int .i64 0] 59 w.heap.size 23 rfl (by simp)),h.below hbz⟩
 have HR:=Lib.hid (XR.of_below (col:=col) hbz)
 have HJ:=Lib.hid hJ
 clear h hJ hrow hbz
 go_enter Tryz.func74,Tryz.ntmps74
 go_wp2_with (first | (refine wpList_load_mid rfl 59 _ rfl (jbk i) 0 rfl (jbc i (tk i) J) _ hrg Tryz.underlying59 rfl Tryz.size59 ?_;clear hrg) | (refine wpList_store_mid rfl 59 _ _ rfl w.heap.size 0 (jbc i (tk i) J).toArray rfl rfl (th_new w #[.int .i64 0,.int .i64 0,.int .i64 0,.int .i64 0,.bool false,.bool false,.bool false,.string ⟨#[]⟩,.int .i64 0,.int .i64 0,.int .i64 0,.int .i64 0,.int .i64 0,.int .i64 0,.int .i64 0,.int .i64 0,.int .i64 0,.int .i64 0,.int .i64 0,.int .i64 0,.int .i64 0,.bool false,.int .i64 0] 59 w.heap.size 23 rfl (by simp)) Tryz.size59 (by simp [Value.oneCell',jbc]) ?_;try simp only [List.toList_toArray];generalize World.setCells (w.alloc (.cells #[.int .i64 0,.int .i64 0,.int .i64 0,.int .i64 0,.bool false,.bool false,.bool false,.string ⟨#[]⟩,.int .i64 0,.int .i64 0,.int .i64 0,.int .i64 0,.int .i64 0,.int .i64 0,.int .i64 0,.int .i64 0,.int .i64 0,.int .i64 0,.int .i64 0,.int .i64 0,.int .i64 0,.bool false,.int .i64 0] 59)) w.heap.size 0 (jbc i (tk i) J) = w2 at H2 HR ⊢;have c5:=H2.out.1 5 _ rfl;rw [hov] at c5;have c21:=H2.out.1 21 _ rfl;rw [hst] at c21;have c4:=H2.out.1 4 _ rfl;rw [hmu] at c4;simp only [Nat.zero_add] at c5 c21 c4;have HG:=Lib.hid (gone_is H2.out.2 11 i J false (by omega) (by omega) hi HJ.out ho hMx)) | (go_at_call 60;refine HG.out.mono ?_;rintro e w3 ⟨rfl,col3,so3,H3,R3⟩))
 first | go_end0 | refine bodyPost_ret (results_none rfl _ _ _) rfl ?_
 exact ⟨rfl,col3,so3,H3,HR.out.trans R3⟩
theorem fail_11c (h:XW B A bu n tk w s out Mx col F hm so jbk gs kj) (i:Nat) (J:Jb) (hi:i < n) (hJ:s.job i = some J) (ho:out.length ≤ 100000000) (hMx:Mx < 1000000) (hov:J.over = true) (hst:J.struck = true) (hl:¬ J.left = 0) (hmu:J.must = false) :
  Calls Tryz.prog 74 #[.pointer (some ⟨A.x,0,none⟩),.int .i64 i] w fun e w'=>e = .returned (.tuple #[]) ∧ ∃ col' so',XW B A bu n tk w' (gone s i false) (out ++ [tell tk s 11 i J]) (Mx + 1) col' F (hm.filter fun x=>!(x.2.2.2 == (i:Int))) so' jbk gs (upd kj i none) ∧ XR col w col' w':=by
 have hi0:(0:Int) ≤ (i:Int):=by omega
 have hiI:(i:Int) < (n:Int):=by omega
 have hn16:=h.c.n16
 have f3:=h.f.f3
 have hrow:=h.jb.row i hi
 rw [hJ] at hrow
 have hrow':w.cell? ⟨A.jb,i,none⟩ = some (.pointer (some ⟨jbk i,0,none⟩)):=hrow
 have hrg:=h.jb.rg i J hi hJ
 have hlb:(J.left == 0) = false:=by simpa using hl
 have hbz:Below w.heap.size w ((w.alloc (.cells #[.int .i64 0,.int .i64 0,.int .i64 0,.int .i64 0,.bool false,.bool false,.bool false,.string ⟨#[]⟩,.int .i64 0,.int .i64 0,.int .i64 0,.int .i64 0,.int .i64 0,.int .i64 0,.int .i64 0,.int .i64 0,.int .i64 0,.int .i64 0,.int .i64 0,.int .i64 0,.int .i64 0,.bool false,.int .i64 0] 59)).setCells w.heap.size 0 (jbc i (tk i) J)):=below_setCells (Nat.le_refl _) _ _ _ (bel_alloc (Below.refl _ _) _)
 have H2:Hid (((w.alloc (.cells #[.int .i64 0,.int .i64 0,.int .i64 0,.int .i64 0,.bool false,.bool false,.bool false,.string ⟨#[]⟩,.int .i64 0,.int .i64 0,.int .i64 0,.int .i64 0,.int .i64 0,.int .i64 0,.int .i64 0,.int .i64 0,.int .i64 0,.int .i64 0,.int .i64 0,.int .i64 0,.int .i64 0,.bool false,.int .i64 0] 59)).setCells w.heap.size 0 (jbc i (tk i) J)).rangeAt w.heap.size 0 (jbc i (tk i) J) ∧ XW B A bu n tk ((w.alloc (.cells #[.int .i64 0,.int .i64 0,.int .i64 0,.int .i64 0,.bool false,.bool false,.bool false,.string ⟨#[]⟩,.int .i64 0,.int .i64 0,.int .i64 0,.int .i64 0,.int .i64 0,.int .i64 0,.int .i64 0,.int .i64 0,.int .i64 0,.int .i64 0,.int .i64 0,.int .i64 0,.int .i64 0,.bool false,.int .i64 0] 59)).setCells w.heap.size 0 (jbc i (tk i) J)) s out Mx col F hm so jbk gs kj) :=
  ⟨World.rangeAt_setCells_same _ _ _ (jbc i (tk i) J) (th_new w #[.int .i64 0,.int .i64 0,.int .i64 0,.int .i64 0,.bool false,.bool false,.bool false,.string ⟨#[]⟩,.int .i64 0,.int .i64 0,.int .i64 0,.int .i64 0,.int .i64 0,.int .i64 0,.int .i64 0,.int .i64 0,.int .i64 0,.int .i64 0,.int .i64 0,.int .i64 0,.int .i64 0,.bool false,.int .i64 0] 59 w.heap.size 23 rfl (by simp)),h.below hbz⟩
 have HR:=Lib.hid (XR.of_below (col:=col) hbz)
 have HJ:=Lib.hid hJ
 clear h hJ hrow hbz
 go_enter Tryz.func74,Tryz.ntmps74
 go_wp2_with (first | (refine wpList_load_mid rfl 59 _ rfl (jbk i) 0 rfl (jbc i (tk i) J) _ hrg Tryz.underlying59 rfl Tryz.size59 ?_;clear hrg) | (refine wpList_store_mid rfl 59 _ _ rfl w.heap.size 0 (jbc i (tk i) J).toArray rfl rfl (th_new w #[.int .i64 0,.int .i64 0,.int .i64 0,.int .i64 0,.bool false,.bool false,.bool false,.string ⟨#[]⟩,.int .i64 0,.int .i64 0,.int .i64 0,.int .i64 0,.int .i64 0,.int .i64 0,.int .i64 0,.int .i64 0,.int .i64 0,.int .i64 0,.int .i64 0,.int .i64 0,.int .i64 0,.bool false,.int .i64 0] 59 w.heap.size 23 rfl (by simp)) Tryz.size59 (by simp [Value.oneCell',jbc]) ?_;try simp only [List.toList_toArray];generalize World.setCells (w.alloc (.cells #[.int .i64 0,.int .i64 0,.int .i64 0,.int .i64 0,.bool false,.bool false,.bool false,.string ⟨#[]⟩,.int .i64 0,.int .i64 0,.int .i64 0,.int .i64 0,.int .i64 0,.int .i64 0,.int .i64 0,.int .i64 0,.int .i64 0,.int .i64 0,.int .i64 0,.int .i64 0,.int .i64 0,.bool false,.int .i64 0] 59)) w.heap.size 0 (jbc i (tk i) J) = w2 at H2 HR ⊢;have c5:=H2.out.1 5 _ rfl;rw [hov] at c5;have c21:=H2.out.1 21 _ rfl;rw [hst] at c21;have c20:=H2.out.1 20 _ rfl;have c4:=H2.out.1 4 _ rfl;rw [hmu] at c4;simp only [Nat.zero_add] at c5 c21 c20 c4;have HG:=Lib.hid (gone_is H2.out.2 11 i J false (by omega) (by omega) hi HJ.out ho hMx)) | (go_at_call 60;refine HG.out.mono ?_;rintro e w3 ⟨rfl,col3,so3,H3,R3⟩))
 first | go_end0 | refine bodyPost_ret (results_none rfl _ _ _) rfl ?_
 exact ⟨rfl,col3,so3,H3,HR.out.trans R3⟩
theorem fail_6a (h:XW B A bu n tk w s out Mx col F hm so jbk gs kj) (i:Nat) (J:Jb) (hi:i < n) (hJ:s.job i = some J) (ho:out.length ≤ 100000000) (hMx:Mx < 1000000) (hov:J.over = false) (hmu:J.must = true) :
  Calls Tryz.prog 74 #[.pointer (some ⟨A.x,0,none⟩),.int .i64 i] w fun e w'=>e = .returned (.tuple #[]) ∧ ∃ col' so',XW B A bu n tk w' s (out ++ [tell tk s 6 i J]) Mx col' F hm so' jbk gs kj ∧ XR col w col' w':=by
 have hi0:(0:Int) ≤ (i:Int):=by omega
 have hiI:(i:Int) < (n:Int):=by omega
 have hn16:=h.c.n16
 have f3:=h.f.f3
 have hrow:=h.jb.row i hi
 rw [hJ] at hrow
 have hrow':w.cell? ⟨A.jb,i,none⟩ = some (.pointer (some ⟨jbk i,0,none⟩)):=hrow
 have hrg:=h.jb.rg i J hi hJ
 have hbz:Below w.heap.size w ((w.alloc (.cells #[.int .i64 0,.int .i64 0,.int .i64 0,.int .i64 0,.bool false,.bool false,.bool false,.string ⟨#[]⟩,.int .i64 0,.int .i64 0,.int .i64 0,.int .i64 0,.int .i64 0,.int .i64 0,.int .i64 0,.int .i64 0,.int .i64 0,.int .i64 0,.int .i64 0,.int .i64 0,.int .i64 0,.bool false,.int .i64 0] 59)).setCells w.heap.size 0 (jbc i (tk i) J)):=below_setCells (Nat.le_refl _) _ _ _ (bel_alloc (Below.refl _ _) _)
 have H2:Hid (((w.alloc (.cells #[.int .i64 0,.int .i64 0,.int .i64 0,.int .i64 0,.bool false,.bool false,.bool false,.string ⟨#[]⟩,.int .i64 0,.int .i64 0,.int .i64 0,.int .i64 0,.int .i64 0,.int .i64 0,.int .i64 0,.int .i64 0,.int .i64 0,.int .i64 0,.int .i64 0,.int .i64 0,.int .i64 0,.bool false,.int .i64 0] 59)).setCells w.heap.size 0 (jbc i (tk i) J)).rangeAt w.heap.size 0 (jbc i (tk i) J) ∧ XW B A bu n tk ((w.alloc (.cells #[.int .i64 0,.int .i64 0,.int .i64 0,.int .i64 0,.bool false,.bool false,.bool false,.string ⟨#[]⟩,.int .i64 0,.int .i64 0,.int .i64 0,.int .i64 0,.int .i64 0,.int .i64 0,.int .i64 0,.int .i64 0,.int .i64 0,.int .i64 0,.int .i64 0,.int .i64 0,.int .i64 0,.bool false,.int .i64 0] 59)).setCells w.heap.size 0 (jbc i (tk i) J)) s out Mx col F hm so jbk gs kj) :=
  ⟨World.rangeAt_setCells_same _ _ _ (jbc i (tk i) J) (th_new w #[.int .i64 0,.int .i64 0,.int .i64 0,.int .i64 0,.bool false,.bool false,.bool false,.string ⟨#[]⟩,.int .i64 0,.int .i64 0,.int .i64 0,.int .i64 0,.int .i64 0,.int .i64 0,.int .i64 0,.int .i64 0,.int .i64 0,.int .i64 0,.int .i64 0,.int .i64 0,.int .i64 0,.bool false,.int .i64 0] 59 w.heap.size 23 rfl (by simp)),h.below hbz⟩
 have HR:=Lib.hid (XR.of_below (col:=col) hbz)
 have HJ:=Lib.hid hJ
 clear h hJ hrow hbz
 go_enter Tryz.func74,Tryz.ntmps74
 go_wp2_with (first | (refine wpList_load_mid rfl 59 _ rfl (jbk i) 0 rfl (jbc i (tk i) J) _ hrg Tryz.underlying59 rfl Tryz.size59 ?_;clear hrg) | (refine wpList_store_mid rfl 59 _ _ rfl w.heap.size 0 (jbc i (tk i) J).toArray rfl rfl (th_new w #[.int .i64 0,.int .i64 0,.int .i64 0,.int .i64 0,.bool false,.bool false,.bool false,.string ⟨#[]⟩,.int .i64 0,.int .i64 0,.int .i64 0,.int .i64 0,.int .i64 0,.int .i64 0,.int .i64 0,.int .i64 0,.int .i64 0,.int .i64 0,.int .i64 0,.int .i64 0,.int .i64 0,.bool false,.int .i64 0] 59 w.heap.size 23 rfl (by simp)) Tryz.size59 (by simp [Value.oneCell',jbc]) ?_;try simp only [List.toList_toArray];generalize World.setCells (w.alloc (.cells #[.int .i64 0,.int .i64 0,.int .i64 0,.int .i64 0,.bool false,.bool false,.bool false,.string ⟨#[]⟩,.int .i64 0,.int .i64 0,.int .i64 0,.int .i64 0,.int .i64 0,.int .i64 0,.int .i64 0,.int .i64 0,.int .i64 0,.int .i64 0,.int .i64 0,.int .i64 0,.int .i64 0,.bool false,.int .i64 0] 59)) w.heap.size 0 (jbc i (tk i) J) = w2 at H2 HR ⊢;have c5:=H2.out.1 5 _ rfl;rw [hov] at c5;have c4:=H2.out.1 4 _ rfl;rw [hmu] at c4;simp only [Nat.zero_add] at c5 c4;have HG:=Lib.hid (tell_is H2.out.2 6 i J (by omega) (by omega) hi HJ.out ho)) | (go_at_call 69;refine HG.out.mono ?_;rintro e w3 ⟨rfl,col3,so3,H3,R3⟩))
 first | go_end0 | refine bodyPost_ret (results_none rfl _ _ _) rfl ?_
 exact ⟨rfl,col3,so3,H3,HR.out.trans R3⟩
theorem fail_6b (h:XW B A bu n tk w s out Mx col F hm so jbk gs kj) (i:Nat) (J:Jb) (hi:i < n) (hJ:s.job i = some J) (ho:out.length ≤ 100000000) (hMx:Mx < 1000000) (hov:J.over = true) (hst:J.struck = false) (hmu:J.must = true) :
  Calls Tryz.prog 74 #[.pointer (some ⟨A.x,0,none⟩),.int .i64 i] w fun e w'=>e = .returned (.tuple #[]) ∧ ∃ col' so',XW B A bu n tk w' s (out ++ [tell tk s 6 i J]) Mx col' F hm so' jbk gs kj ∧ XR col w col' w':=by
 have hi0:(0:Int) ≤ (i:Int):=by omega
 have hiI:(i:Int) < (n:Int):=by omega
 have hn16:=h.c.n16
 have f3:=h.f.f3
 have hrow:=h.jb.row i hi
 rw [hJ] at hrow
 have hrow':w.cell? ⟨A.jb,i,none⟩ = some (.pointer (some ⟨jbk i,0,none⟩)):=hrow
 have hrg:=h.jb.rg i J hi hJ
 have hbz:Below w.heap.size w ((w.alloc (.cells #[.int .i64 0,.int .i64 0,.int .i64 0,.int .i64 0,.bool false,.bool false,.bool false,.string ⟨#[]⟩,.int .i64 0,.int .i64 0,.int .i64 0,.int .i64 0,.int .i64 0,.int .i64 0,.int .i64 0,.int .i64 0,.int .i64 0,.int .i64 0,.int .i64 0,.int .i64 0,.int .i64 0,.bool false,.int .i64 0] 59)).setCells w.heap.size 0 (jbc i (tk i) J)):=below_setCells (Nat.le_refl _) _ _ _ (bel_alloc (Below.refl _ _) _)
 have H2:Hid (((w.alloc (.cells #[.int .i64 0,.int .i64 0,.int .i64 0,.int .i64 0,.bool false,.bool false,.bool false,.string ⟨#[]⟩,.int .i64 0,.int .i64 0,.int .i64 0,.int .i64 0,.int .i64 0,.int .i64 0,.int .i64 0,.int .i64 0,.int .i64 0,.int .i64 0,.int .i64 0,.int .i64 0,.int .i64 0,.bool false,.int .i64 0] 59)).setCells w.heap.size 0 (jbc i (tk i) J)).rangeAt w.heap.size 0 (jbc i (tk i) J) ∧ XW B A bu n tk ((w.alloc (.cells #[.int .i64 0,.int .i64 0,.int .i64 0,.int .i64 0,.bool false,.bool false,.bool false,.string ⟨#[]⟩,.int .i64 0,.int .i64 0,.int .i64 0,.int .i64 0,.int .i64 0,.int .i64 0,.int .i64 0,.int .i64 0,.int .i64 0,.int .i64 0,.int .i64 0,.int .i64 0,.int .i64 0,.bool false,.int .i64 0] 59)).setCells w.heap.size 0 (jbc i (tk i) J)) s out Mx col F hm so jbk gs kj) :=
  ⟨World.rangeAt_setCells_same _ _ _ (jbc i (tk i) J) (th_new w #[.int .i64 0,.int .i64 0,.int .i64 0,.int .i64 0,.bool false,.bool false,.bool false,.string ⟨#[]⟩,.int .i64 0,.int .i64 0,.int .i64 0,.int .i64 0,.int .i64 0,.int .i64 0,.int .i64 0,.int .i64 0,.int .i64 0,.int .i64 0,.int .i64 0,.int .i64 0,.int .i64 0,.bool false,.int .i64 0] 59 w.heap.size 23 rfl (by simp)),h.below hbz⟩
 have HR:=Lib.hid (XR.of_below (col:=col) hbz)
 have HJ:=Lib.hid hJ
 clear h hJ hrow hbz
 go_enter Tryz.func74,Tryz.ntmps74
 go_wp2_with (first | (refine wpList_load_mid rfl 59 _ rfl (jbk i) 0 rfl (jbc i (tk i) J) _ hrg Tryz.underlying59 rfl Tryz.size59 ?_;clear hrg) | (refine wpList_store_mid rfl 59 _ _ rfl w.heap.size 0 (jbc i (tk i) J).toArray rfl rfl (th_new w #[.int .i64 0,.int .i64 0,.int .i64 0,.int .i64 0,.bool false,.bool false,.bool false,.string ⟨#[]⟩,.int .i64 0,.int .i64 0,.int .i64 0,.int .i64 0,.int .i64 0,.int .i64 0,.int .i64 0,.int .i64 0,.int .i64 0,.int .i64 0,.int .i64 0,.int .i64 0,.int .i64 0,.bool false,.int .i64 0] 59 w.heap.size 23 rfl (by simp)) Tryz.size59 (by simp [Value.oneCell',jbc]) ?_;try simp only [List.toList_toArray];generalize World.setCells (w.alloc (.cells #[.int .i64 0,.int .i64 0,.int .i64 0,.int .i64 0,.bool false,.bool false,.bool false,.string ⟨#[]⟩,.int .i64 0,.int .i64 0,.int .i64 0,.int .i64 0,.int .i64 0,.int .i64 0,.int .i64 0,.int .i64 0,.int .i64 0,.int .i64 0,.int .i64 0,.int .i64 0,.int .i64 0,.bool false,.int .i64 0] 59)) w.heap.size 0 (jbc i (tk i) J) = w2 at H2 HR ⊢;have c5:=H2.out.1 5 _ rfl;rw [hov] at c5;have c21:=H2.out.1 21 _ rfl;rw [hst] at c21;have c4:=H2.out.1 4 _ rfl;rw [hmu] at c4;simp only [Nat.zero_add] at c5 c21 c4;have HG:=Lib.hid (tell_is H2.out.2 6 i J (by omega) (by omega) hi HJ.out ho)) | (go_at_call 69;refine HG.out.mono ?_;rintro e w3 ⟨rfl,col3,so3,H3,R3⟩))
 first | go_end0 | refine bodyPost_ret (results_none rfl _ _ _) rfl ?_
 exact ⟨rfl,col3,so3,H3,HR.out.trans R3⟩
theorem fail_6c (h:XW B A bu n tk w s out Mx col F hm so jbk gs kj) (i:Nat) (J:Jb) (hi:i < n) (hJ:s.job i = some J) (ho:out.length ≤ 100000000) (hMx:Mx < 1000000) (hov:J.over = true) (hst:J.struck = true) (hl:¬ J.left = 0) (hmu:J.must = true) :
  Calls Tryz.prog 74 #[.pointer (some ⟨A.x,0,none⟩),.int .i64 i] w fun e w'=>e = .returned (.tuple #[]) ∧ ∃ col' so',XW B A bu n tk w' s (out ++ [tell tk s 6 i J]) Mx col' F hm so' jbk gs kj ∧ XR col w col' w':=by
 have hi0:(0:Int) ≤ (i:Int):=by omega
 have hiI:(i:Int) < (n:Int):=by omega
 have hn16:=h.c.n16
 have f3:=h.f.f3
 have hrow:=h.jb.row i hi
 rw [hJ] at hrow
 have hrow':w.cell? ⟨A.jb,i,none⟩ = some (.pointer (some ⟨jbk i,0,none⟩)):=hrow
 have hrg:=h.jb.rg i J hi hJ
 have hlb:(J.left == 0) = false:=by simpa using hl
 have hbz:Below w.heap.size w ((w.alloc (.cells #[.int .i64 0,.int .i64 0,.int .i64 0,.int .i64 0,.bool false,.bool false,.bool false,.string ⟨#[]⟩,.int .i64 0,.int .i64 0,.int .i64 0,.int .i64 0,.int .i64 0,.int .i64 0,.int .i64 0,.int .i64 0,.int .i64 0,.int .i64 0,.int .i64 0,.int .i64 0,.int .i64 0,.bool false,.int .i64 0] 59)).setCells w.heap.size 0 (jbc i (tk i) J)):=below_setCells (Nat.le_refl _) _ _ _ (bel_alloc (Below.refl _ _) _)
 have H2:Hid (((w.alloc (.cells #[.int .i64 0,.int .i64 0,.int .i64 0,.int .i64 0,.bool false,.bool false,.bool false,.string ⟨#[]⟩,.int .i64 0,.int .i64 0,.int .i64 0,.int .i64 0,.int .i64 0,.int .i64 0,.int .i64 0,.int .i64 0,.int .i64 0,.int .i64 0,.int .i64 0,.int .i64 0,.int .i64 0,.bool false,.int .i64 0] 59)).setCells w.heap.size 0 (jbc i (tk i) J)).rangeAt w.heap.size 0 (jbc i (tk i) J) ∧ XW B A bu n tk ((w.alloc (.cells #[.int .i64 0,.int .i64 0,.int .i64 0,.int .i64 0,.bool false,.bool false,.bool false,.string ⟨#[]⟩,.int .i64 0,.int .i64 0,.int .i64 0,.int .i64 0,.int .i64 0,.int .i64 0,.int .i64 0,.int .i64 0,.int .i64 0,.int .i64 0,.int .i64 0,.int .i64 0,.int .i64 0,.bool false,.int .i64 0] 59)).setCells w.heap.size 0 (jbc i (tk i) J)) s out Mx col F hm so jbk gs kj) :=
  ⟨World.rangeAt_setCells_same _ _ _ (jbc i (tk i) J) (th_new w #[.int .i64 0,.int .i64 0,.int .i64 0,.int .i64 0,.bool false,.bool false,.bool false,.string ⟨#[]⟩,.int .i64 0,.int .i64 0,.int .i64 0,.int .i64 0,.int .i64 0,.int .i64 0,.int .i64 0,.int .i64 0,.int .i64 0,.int .i64 0,.int .i64 0,.int .i64 0,.int .i64 0,.bool false,.int .i64 0] 59 w.heap.size 23 rfl (by simp)),h.below hbz⟩
 have HR:=Lib.hid (XR.of_below (col:=col) hbz)
 have HJ:=Lib.hid hJ
 clear h hJ hrow hbz
 go_enter Tryz.func74,Tryz.ntmps74
 go_wp2_with (first | (refine wpList_load_mid rfl 59 _ rfl (jbk i) 0 rfl (jbc i (tk i) J) _ hrg Tryz.underlying59 rfl Tryz.size59 ?_;clear hrg) | (refine wpList_store_mid rfl 59 _ _ rfl w.heap.size 0 (jbc i (tk i) J).toArray rfl rfl (th_new w #[.int .i64 0,.int .i64 0,.int .i64 0,.int .i64 0,.bool false,.bool false,.bool false,.string ⟨#[]⟩,.int .i64 0,.int .i64 0,.int .i64 0,.int .i64 0,.int .i64 0,.int .i64 0,.int .i64 0,.int .i64 0,.int .i64 0,.int .i64 0,.int .i64 0,.int .i64 0,.int .i64 0,.bool false,.int .i64 0] 59 w.heap.size 23 rfl (by simp)) Tryz.size59 (by simp [Value.oneCell',jbc]) ?_;try simp only [List.toList_toArray];generalize World.setCells (w.alloc (.cells #[.int .i64 0,.int .i64 0,.int .i64 0,.int .i64 0,.bool false,.bool false,.bool false,.string ⟨#[]⟩,.int .i64 0,.int .i64 0,.int .i64 0,.int .i64 0,.int .i64 0,.int .i64 0,.int .i64 0,.int .i64 0,.int .i64 0,.int .i64 0,.int .i64 0,.int .i64 0,.int .i64 0,.bool false,.int .i64 0] 59)) w.heap.size 0 (jbc i (tk i) J) = w2 at H2 HR ⊢;have c5:=H2.out.1 5 _ rfl;rw [hov] at c5;have c21:=H2.out.1 21 _ rfl;rw [hst] at c21;have c20:=H2.out.1 20 _ rfl;have c4:=H2.out.1 4 _ rfl;rw [hmu] at c4;simp only [Nat.zero_add] at c5 c21 c20 c4;have HG:=Lib.hid (tell_is H2.out.2 6 i J (by omega) (by omega) hi HJ.out ho)) | (go_at_call 69;refine HG.out.mono ?_;rintro e w3 ⟨rfl,col3,so3,H3,R3⟩))
 first | go_end0 | refine bodyPost_ret (results_none rfl _ _ _) rfl ?_
 exact ⟨rfl,col3,so3,H3,HR.out.trans R3⟩
end
end
end Go.Proofs.YtnoahekcemfmcaaGreatDoor
