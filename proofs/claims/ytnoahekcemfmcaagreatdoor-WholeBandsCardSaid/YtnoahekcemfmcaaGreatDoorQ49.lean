/- A part of the walk: Mr Ms. -/
import Derived.Test.YtnoahekcemfmcaaGreatDoorQ48
namespace Go.Proofs.YtnoahekcemfmcaaGreatDoor
set_option linter.unusedVariables false
set_option linter.unusedSimpArgs false
section
open Go.RowKit
set_option maxHeartbeats 80000000 in
set_option maxRecDepth 100000 in
theorem r22_a (t0 t1 t2 t3 t4 t5 t6 t7 t9 t10 t15 t16 t17 t18 t19 t20 t21 t22 t23 t24 t25 t26 t27 t28 t29 t30 t31 t32 t33 t34 t35 t36 t37 t38 t39 t40 t41 t42 t43 t44 t45 t46 t47 t48 t49 t50 t51 t52 t53 t54 t55 t56 t57 t58 t59 t60 t61 t62 t63 t64 t65 t66 t67 t68 t69 t70 t71 t72 t73 t74 t75 t76 t77 t78 t79 t80 t81 t82 t83 t84 t85 t86 t87 t88 t89 t90 t91 t92 t93 t94 t95 t96 t97 t98 t99 t100 t101 t102 t103 t104 t105 t106 t107 t108 t109 t110 t111 t112 t113 t114 t115 t116 t117 t118 t119 t120 t121 t122 t123 t124 t125 t126 t127 t128 t129 t130 t131 t132 t133 t134 t135 t136 t137 t138 t139 t140 t141 t142 t143 t144 t145 t146 t147 t148 t149 t150 t151 : Value) (ds : List Deferred) (g1 g2 n1 n2 c1 c2 j kk : Nat) (w : World) (Q : Exit → Act → World → Prop)
  (hQ : ∀ (x83 x84 x85 x86 x87 x88 x89 x90 x91 x92 x93 x94 x95 x96 x97 x98 x99 x100 x101 x102 x103 x104 x105 x106 x107 x108 x109 x110 x111 x112 x113 x114 x115 x116 x117 x118 x119 x120 x121 x122 : Value) (dq : Nat) (osq : Array Obj), Q .normal { tmps := #[t0, t1, t2, t3, t4, t5, t6, t7, .slice (some ⟨g1, 0, none⟩) n1 c1, t9, t10, .slice (some ⟨g2, 0, none⟩) n2 c2, .int .i64 (kk : Nat), .bool true, .int .i64 (j : Nat), t15, t16, t17, t18, t19, t20, t21, t22, t23, t24, t25, t26, t27, t28, t29, t30, t31, t32, t33, t34, t35, t36, t37, t38, t39, t40, t41, t42, t43, t44, t45, t46, t47, t48, t49, t50, t51, t52, t53, t54, t55, t56, t57, t58, t59, t60, t61, t62, t63, t64, t65, t66, t67, t68, t69, t70, t71, t72, t73, t74, t75, t76, t77, t78, t79, t80, t81, t82, x83, x84, x85, x86, x87, x88, x89, x90, x91, x92, x93, x94, x95, x96, x97, x98, x99, x100, x101, x102, x103, x104, x105, x106, x107, x108, x109, x110, x111, x112, x113, x114, x115, x116, x117, x118, x119, x120, x121, x122, t123, t124, t125, t126, t127, t128, t129, t130, t131, t132, t133, t134, t135, t136, t137, t138, t139, t140, t141, t142, t143, t144, t145, t146, t147, t148, t149, t150, t151], defers := ds } (Sort.grow (redrawn w dq) osq)) :
  ∀ ops, opsOf Tryz.f4 22 = some ops → (Code.region 22 ops true).wp Tryz.prog Q { tmps := #[t0, t1, t2, t3, t4, t5, t6, t7, .slice (some ⟨g1, 0, none⟩) n1 c1, t9, t10, .slice (some ⟨g2, 0, none⟩) n2 c2, .int .i64 (kk : Nat), .bool true, .int .i64 (j : Nat), t15, t16, t17, t18, t19, t20, t21, t22, t23, t24, t25, t26, t27, t28, t29, t30, t31, t32, t33, t34, t35, t36, t37, t38, t39, t40, t41, t42, t43, t44, t45, t46, t47, t48, t49, t50, t51, t52, t53, t54, t55, t56, t57, t58, t59, t60, t61, t62, t63, t64, t65, t66, t67, t68, t69, t70, t71, t72, t73, t74, t75, t76, t77, t78, t79, t80, t81, t82, t83, t84, t85, t86, t87, t88, t89, t90, t91, t92, t93, t94, t95, t96, t97, t98, t99, t100, t101, t102, t103, t104, t105, t106, t107, t108, t109, t110, t111, t112, t113, t114, t115, t116, t117, t118, t119, t120, t121, t122, t123, t124, t125, t126, t127, t128, t129, t130, t131, t132, t133, t134, t135, t136, t137, t138, t139, t140, t141, t142, t143, t144, t145, t146, t147, t148, t149, t150, t151], defers := ds } w := by
 have hmo : Tryz.prog.follows .mixedOrders = true := by kernel_rfl
 intro ops hops
 have h2 : opsOf Tryz.f4 22 = some _ := rfl
 cases h2.symm.trans hops
 clear hops h2
 have HQ := Lib.hid hQ
 clear hQ
 refine wp_region_quiet_below hmo (by kernel_rfl) (WQ.out ?_)
 repeat (refine WQ.step (fun K hK => ?_); go_simp; refine hK _ ?_; clear hK K)
 refine WQ.nil ?_
 intro _ hw'
 obtain ⟨⟨dq, osq⟩, hw''⟩ := hw'
 subst hw''
 exact HQ.out _ _ _ _ _ _ _ _ _ _ _ _ _ _ _ _ _ _ _ _ _ _ _ _ _ _ _ _ _ _ _ _ _ _ _ _ _ _ _ _ dq osq
set_option maxHeartbeats 80000000 in
set_option maxRecDepth 100000 in
theorem r22_b (t0 t1 t2 t3 t4 t5 t6 t7 t9 t10 t15 t16 t17 t18 t19 t20 t21 t22 t23 t24 t25 t26 t27 t28 t29 t30 t31 t32 t33 t34 t35 t36 t37 t38 t39 t40 t41 t42 t43 t44 t45 t46 t47 t48 t49 t50 t51 t52 t53 t54 t55 t56 t57 t58 t59 t60 t61 t62 t63 t64 t65 t66 t67 t68 t69 t70 t71 t72 t73 t74 t75 t76 t77 t78 t79 t80 t81 t82 t83 t84 t85 t86 t87 t88 t89 t90 t91 t92 t93 t94 t95 t96 t97 t98 t99 t100 t101 t102 t103 t104 t105 t106 t107 t108 t109 t110 t111 t112 t113 t114 t115 t116 t117 t118 t119 t120 t121 t122 t123 t124 t125 t126 t127 t128 t129 t130 t131 t132 t133 t134 t135 t136 t137 t138 t139 t140 t141 t142 t143 t144 t145 t146 t147 t148 t149 t150 t151 : Value) (ds : List Deferred) (g1 g2 n1 n2 c1 c2 j kk : Nat) (w : World) (Q : Exit → Act → World → Prop) (tk : Nat → Tk) (i1 i2 : Nat) (J1 J2 : Jb) (hg1 : w.rangeAt g1 (j * 23) (jpc tk (i1, J1))) (hg2 : w.rangeAt g2 (kk * 23) (jpc tk (i2, J2))) (hj : j < n1) (hk : kk < n2) (hn1 : n1 ≤ 16) (hn2 : n2 ≤ 16) (hti : i1 ≠ i2)
  (hQ : ∀ (x83 x84 x85 x86 x87 x88 x89 x90 x91 x92 x93 x94 x95 x96 x97 x98 x99 x100 x101 x102 x103 x104 x105 x106 x107 x108 x109 x110 x111 x112 x113 x114 x115 x116 x117 x118 x119 x120 x121 x122 : Value) (dq : Nat) (osq : Array Obj), Q .normal { tmps := #[t0, t1, t2, t3, t4, t5, t6, t7, .slice (some ⟨g1, 0, none⟩) n1 c1, t9, t10, .slice (some ⟨g2, 0, none⟩) n2 c2, .int .i64 (kk : Nat), .bool false, .int .i64 (j : Nat), t15, t16, t17, t18, t19, t20, t21, t22, t23, t24, t25, t26, t27, t28, t29, t30, t31, t32, t33, t34, t35, t36, t37, t38, t39, t40, t41, t42, t43, t44, t45, t46, t47, t48, t49, t50, t51, t52, t53, t54, t55, t56, t57, t58, t59, t60, t61, t62, t63, t64, t65, t66, t67, t68, t69, t70, t71, t72, t73, t74, t75, t76, t77, t78, t79, t80, t81, t82, x83, x84, x85, x86, x87, x88, x89, x90, x91, x92, x93, x94, x95, x96, x97, x98, x99, x100, x101, x102, x103, x104, x105, x106, x107, x108, x109, x110, x111, x112, x113, x114, x115, x116, x117, x118, x119, x120, x121, x122, t123, t124, t125, t126, t127, t128, t129, t130, t131, t132, t133, t134, t135, t136, t137, t138, t139, t140, t141, t142, t143, t144, t145, t146, t147, t148, t149, t150, t151], defers := ds } (Sort.grow (redrawn w dq) osq)) :
  ∀ ops, opsOf Tryz.f4 22 = some ops → (Code.region 22 ops true).wp Tryz.prog Q { tmps := #[t0, t1, t2, t3, t4, t5, t6, t7, .slice (some ⟨g1, 0, none⟩) n1 c1, t9, t10, .slice (some ⟨g2, 0, none⟩) n2 c2, .int .i64 (kk : Nat), .bool false, .int .i64 (j : Nat), t15, t16, t17, t18, t19, t20, t21, t22, t23, t24, t25, t26, t27, t28, t29, t30, t31, t32, t33, t34, t35, t36, t37, t38, t39, t40, t41, t42, t43, t44, t45, t46, t47, t48, t49, t50, t51, t52, t53, t54, t55, t56, t57, t58, t59, t60, t61, t62, t63, t64, t65, t66, t67, t68, t69, t70, t71, t72, t73, t74, t75, t76, t77, t78, t79, t80, t81, t82, t83, t84, t85, t86, t87, t88, t89, t90, t91, t92, t93, t94, t95, t96, t97, t98, t99, t100, t101, t102, t103, t104, t105, t106, t107, t108, t109, t110, t111, t112, t113, t114, t115, t116, t117, t118, t119, t120, t121, t122, t123, t124, t125, t126, t127, t128, t129, t130, t131, t132, t133, t134, t135, t136, t137, t138, t139, t140, t141, t142, t143, t144, t145, t146, t147, t148, t149, t150, t151], defers := ds } w := by
 have hmo : Tryz.prog.follows .mixedOrders = true := by kernel_rfl
 intro ops hops
 have h2 : opsOf Tryz.f4 22 = some _ := rfl
 cases h2.symm.trans hops
 clear hops h2
 have HQ := Lib.hid hQ
 clear hQ
 have hti' : ¬ (i1 : Int) = (i2 : Int) := by omega
 have hjI : (j : Int) < (n1 : Int) := by omega
 have hj0 : (0 : Int) ≤ (j : Int) := by omega
 have hkkI : (kk : Int) < (n2 : Int) := by omega
 have hkk0 : (0 : Int) ≤ (kk : Int) := by omega
 have A0 := fun d os => cell_regrown (hg1 0 _ rfl) d os
 have B0 := fun d os => cell_regrown (hg2 0 _ rfl) d os
 simp only [Nat.add_zero] at A0 B0
 clear hg1 hg2 hj hk hn1 hn2
 refine wp_region_quiet_below hmo (by kernel_rfl) (WQ.out ?_)
 repeat (refine WQ.step (fun K hK => ?_); go_simp; refine hK _ ?_; clear hK K)
 refine WQ.nil ?_
 intro _ hw'
 obtain ⟨⟨dq, osq⟩, hw''⟩ := hw'
 subst hw''
 exact HQ.out _ _ _ _ _ _ _ _ _ _ _ _ _ _ _ _ _ _ _ _ _ _ _ _ _ _ _ _ _ _ _ _ _ _ _ _ _ _ _ _ dq osq
set_option maxHeartbeats 80000000 in
set_option maxRecDepth 100000 in
theorem r22_c (t0 t1 t2 t3 t4 t5 t6 t7 t9 t10 t15 t16 t17 t18 t19 t20 t21 t22 t23 t24 t25 t26 t27 t28 t29 t30 t31 t32 t33 t34 t35 t36 t37 t38 t39 t40 t41 t42 t43 t44 t45 t46 t47 t48 t49 t50 t51 t52 t53 t54 t55 t56 t57 t58 t59 t60 t61 t62 t63 t64 t65 t66 t67 t68 t69 t70 t71 t72 t73 t74 t75 t76 t77 t78 t79 t80 t81 t82 t83 t84 t85 t86 t87 t88 t89 t90 t91 t92 t93 t94 t95 t96 t97 t98 t99 t100 t101 t102 t103 t104 t105 t106 t107 t108 t109 t110 t111 t112 t113 t114 t115 t116 t117 t118 t119 t120 t121 t122 t123 t124 t125 t126 t127 t128 t129 t130 t131 t132 t133 t134 t135 t136 t137 t138 t139 t140 t141 t142 t143 t144 t145 t146 t147 t148 t149 t150 t151 : Value) (ds : List Deferred) (g1 g2 n1 n2 c1 c2 j kk : Nat) (w : World) (Q : Exit → Act → World → Prop) (tk : Nat → Tk) (i1 i2 : Nat) (J1 J2 : Jb) (hg1 : w.rangeAt g1 (j * 23) (jpc tk (i1, J1))) (hg2 : w.rangeAt g2 (kk * 23) (jpc tk (i2, J2))) (hj : j < n1) (hk : kk < n2) (hn1 : n1 ≤ 16) (hn2 : n2 ≤ 16) (hti : i1 = i2) (hno : J1.no ≠ J2.no)
  (hQ : ∀ (x83 x84 x85 x86 x87 x88 x89 x90 x91 x92 x93 x94 x95 x96 x97 x98 x99 x100 x101 x102 x103 x104 x105 x106 x107 x108 x109 x110 x111 x112 x113 x114 x115 x116 x117 x118 x119 x120 x121 x122 : Value) (dq : Nat) (osq : Array Obj), Q .normal { tmps := #[t0, t1, t2, t3, t4, t5, t6, t7, .slice (some ⟨g1, 0, none⟩) n1 c1, t9, t10, .slice (some ⟨g2, 0, none⟩) n2 c2, .int .i64 (kk : Nat), .bool false, .int .i64 (j : Nat), t15, t16, t17, t18, t19, t20, t21, t22, t23, t24, t25, t26, t27, t28, t29, t30, t31, t32, t33, t34, t35, t36, t37, t38, t39, t40, t41, t42, t43, t44, t45, t46, t47, t48, t49, t50, t51, t52, t53, t54, t55, t56, t57, t58, t59, t60, t61, t62, t63, t64, t65, t66, t67, t68, t69, t70, t71, t72, t73, t74, t75, t76, t77, t78, t79, t80, t81, t82, x83, x84, x85, x86, x87, x88, x89, x90, x91, x92, x93, x94, x95, x96, x97, x98, x99, x100, x101, x102, x103, x104, x105, x106, x107, x108, x109, x110, x111, x112, x113, x114, x115, x116, x117, x118, x119, x120, x121, x122, t123, t124, t125, t126, t127, t128, t129, t130, t131, t132, t133, t134, t135, t136, t137, t138, t139, t140, t141, t142, t143, t144, t145, t146, t147, t148, t149, t150, t151], defers := ds } (Sort.grow (redrawn w dq) osq)) :
  ∀ ops, opsOf Tryz.f4 22 = some ops → (Code.region 22 ops true).wp Tryz.prog Q { tmps := #[t0, t1, t2, t3, t4, t5, t6, t7, .slice (some ⟨g1, 0, none⟩) n1 c1, t9, t10, .slice (some ⟨g2, 0, none⟩) n2 c2, .int .i64 (kk : Nat), .bool false, .int .i64 (j : Nat), t15, t16, t17, t18, t19, t20, t21, t22, t23, t24, t25, t26, t27, t28, t29, t30, t31, t32, t33, t34, t35, t36, t37, t38, t39, t40, t41, t42, t43, t44, t45, t46, t47, t48, t49, t50, t51, t52, t53, t54, t55, t56, t57, t58, t59, t60, t61, t62, t63, t64, t65, t66, t67, t68, t69, t70, t71, t72, t73, t74, t75, t76, t77, t78, t79, t80, t81, t82, t83, t84, t85, t86, t87, t88, t89, t90, t91, t92, t93, t94, t95, t96, t97, t98, t99, t100, t101, t102, t103, t104, t105, t106, t107, t108, t109, t110, t111, t112, t113, t114, t115, t116, t117, t118, t119, t120, t121, t122, t123, t124, t125, t126, t127, t128, t129, t130, t131, t132, t133, t134, t135, t136, t137, t138, t139, t140, t141, t142, t143, t144, t145, t146, t147, t148, t149, t150, t151], defers := ds } w := by
 have hmo : Tryz.prog.follows .mixedOrders = true := by kernel_rfl
 intro ops hops
 have h2 : opsOf Tryz.f4 22 = some _ := rfl
 cases h2.symm.trans hops
 clear hops h2
 have HQ := Lib.hid hQ
 clear hQ
 subst hti
 have hno' : ¬ (J1.no : Int) = (J2.no : Int) := by omega
 have hjI : (j : Int) < (n1 : Int) := by omega
 have hj0 : (0 : Int) ≤ (j : Int) := by omega
 have hkkI : (kk : Int) < (n2 : Int) := by omega
 have hkk0 : (0 : Int) ≤ (kk : Int) := by omega
 have A0 := fun d os => cell_regrown (hg1 0 _ rfl) d os
 have B0 := fun d os => cell_regrown (hg2 0 _ rfl) d os
 have A1 := fun d os => cell_regrown (hg1 1 _ rfl) d os
 have B1 := fun d os => cell_regrown (hg2 1 _ rfl) d os
 simp only [Nat.add_zero] at A0 B0
 clear hg1 hg2 hj hk hn1 hn2
 refine wp_region_quiet_below hmo (by kernel_rfl) (WQ.out ?_)
 repeat (refine WQ.step (fun K hK => ?_); go_simp; refine hK _ ?_; clear hK K)
 refine WQ.nil ?_
 intro _ hw'
 obtain ⟨⟨dq, osq⟩, hw''⟩ := hw'
 subst hw''
 exact HQ.out _ _ _ _ _ _ _ _ _ _ _ _ _ _ _ _ _ _ _ _ _ _ _ _ _ _ _ _ _ _ _ _ _ _ _ _ _ _ _ _ dq osq
end
section
open Go.RowKit
set_option maxHeartbeats 80000000 in
set_option maxRecDepth 100000 in
theorem r22_d (t0 t1 t2 t3 t4 t5 t6 t7 t9 t10 t15 t16 t17 t18 t19 t20 t21 t22 t23 t24 t25 t26 t27 t28 t29 t30 t31 t32 t33 t34 t35 t36 t37 t38 t39 t40 t41 t42 t43 t44 t45 t46 t47 t48 t49 t50 t51 t52 t53 t54 t55 t56 t57 t58 t59 t60 t61 t62 t63 t64 t65 t66 t67 t68 t69 t70 t71 t72 t73 t74 t75 t76 t77 t78 t79 t80 t81 t82 t83 t84 t85 t86 t87 t88 t89 t90 t91 t92 t93 t94 t95 t96 t97 t98 t99 t100 t101 t102 t103 t104 t105 t106 t107 t108 t109 t110 t111 t112 t113 t114 t115 t116 t117 t118 t119 t120 t121 t122 t123 t124 t125 t126 t127 t128 t129 t130 t131 t132 t133 t134 t135 t136 t137 t138 t139 t140 t141 t142 t143 t144 t145 t146 t147 t148 t149 t150 t151 : Value) (ds : List Deferred) (g1 g2 n1 n2 c1 c2 j kk : Nat) (w : World) (Q : Exit → Act → World → Prop) (tk : Nat → Tk) (i1 i2 : Nat) (J1 J2 : Jb) (hg1 : w.rangeAt g1 (j * 23) (jpc tk (i1, J1))) (hg2 : w.rangeAt g2 (kk * 23) (jpc tk (i2, J2))) (hj : j < n1) (hk : kk < n2) (hn1 : n1 ≤ 16) (hn2 : n2 ≤ 16) (hti : i1 = i2) (hno : J1.no = J2.no) (z : Bool) (hz : z = if J1.dem = J2.dem then if J1.part = J2.part then if J1.left = J2.left then if J1.struck = J2.struck then if J1.fails = J2.fails then false else true else true else true else true else true)
  (hQ : ∀ (x83 x84 x85 x86 x87 x88 x89 x90 x91 x92 x93 x94 x95 x96 x97 x98 x99 x100 x101 x102 x103 x104 x105 x106 x107 x108 x109 x110 x111 x112 x113 x114 x115 x116 x117 x118 x119 x120 x121 x122 : Value) (dq : Nat) (osq : Array Obj), Q .normal { tmps := #[t0, t1, t2, t3, t4, t5, t6, t7, .slice (some ⟨g1, 0, none⟩) n1 c1, t9, t10, .slice (some ⟨g2, 0, none⟩) n2 c2, .int .i64 (kk : Nat), .bool z, .int .i64 (j : Nat), t15, t16, t17, t18, t19, t20, t21, t22, t23, t24, t25, t26, t27, t28, t29, t30, t31, t32, t33, t34, t35, t36, t37, t38, t39, t40, t41, t42, t43, t44, t45, t46, t47, t48, t49, t50, t51, t52, t53, t54, t55, t56, t57, t58, t59, t60, t61, t62, t63, t64, t65, t66, t67, t68, t69, t70, t71, t72, t73, t74, t75, t76, t77, t78, t79, t80, t81, t82, x83, x84, x85, x86, x87, x88, x89, x90, x91, x92, x93, x94, x95, x96, x97, x98, x99, x100, x101, x102, x103, x104, x105, x106, x107, x108, x109, x110, x111, x112, x113, x114, x115, x116, x117, x118, x119, x120, x121, x122, t123, t124, t125, t126, t127, t128, t129, t130, t131, t132, t133, t134, t135, t136, t137, t138, t139, t140, t141, t142, t143, t144, t145, t146, t147, t148, t149, t150, t151], defers := ds } (Sort.grow (redrawn w dq) osq)) :
  ∀ ops, opsOf Tryz.f4 22 = some ops → (Code.region 22 ops true).wp Tryz.prog Q { tmps := #[t0, t1, t2, t3, t4, t5, t6, t7, .slice (some ⟨g1, 0, none⟩) n1 c1, t9, t10, .slice (some ⟨g2, 0, none⟩) n2 c2, .int .i64 (kk : Nat), .bool false, .int .i64 (j : Nat), t15, t16, t17, t18, t19, t20, t21, t22, t23, t24, t25, t26, t27, t28, t29, t30, t31, t32, t33, t34, t35, t36, t37, t38, t39, t40, t41, t42, t43, t44, t45, t46, t47, t48, t49, t50, t51, t52, t53, t54, t55, t56, t57, t58, t59, t60, t61, t62, t63, t64, t65, t66, t67, t68, t69, t70, t71, t72, t73, t74, t75, t76, t77, t78, t79, t80, t81, t82, t83, t84, t85, t86, t87, t88, t89, t90, t91, t92, t93, t94, t95, t96, t97, t98, t99, t100, t101, t102, t103, t104, t105, t106, t107, t108, t109, t110, t111, t112, t113, t114, t115, t116, t117, t118, t119, t120, t121, t122, t123, t124, t125, t126, t127, t128, t129, t130, t131, t132, t133, t134, t135, t136, t137, t138, t139, t140, t141, t142, t143, t144, t145, t146, t147, t148, t149, t150, t151], defers := ds } w := by
 have hmo : Tryz.prog.follows .mixedOrders = true := by kernel_rfl
 intro ops hops
 have h2 : opsOf Tryz.f4 22 = some _ := rfl
 cases h2.symm.trans hops
 clear hops h2
 have HQ := Lib.hid hQ
 clear hQ
 subst hti
 have hnoI : (J1.no : Int) = (J2.no : Int) := by omega
 have HZ := Lib.hid hz
 clear hz
 have hjI : (j : Int) < (n1 : Int) := by omega
 have hj0 : (0 : Int) ≤ (j : Int) := by omega
 have hkkI : (kk : Int) < (n2 : Int) := by omega
 have hkk0 : (0 : Int) ≤ (kk : Int) := by omega
 have A0 := fun d os => cell_regrown (hg1 0 _ rfl) d os
 have B0 := fun d os => cell_regrown (hg2 0 _ rfl) d os
 have A1 := fun d os => cell_regrown (hg1 1 _ rfl) d os
 have B1 := fun d os => cell_regrown (hg2 1 _ rfl) d os
 have A7 := fun d os => cell_regrown (hg1 7 _ rfl) d os
 have B7 := fun d os => cell_regrown (hg2 7 _ rfl) d os
 have A8 := fun d os => cell_regrown (hg1 8 _ rfl) d os
 have B8 := fun d os => cell_regrown (hg2 8 _ rfl) d os
 have A9 := fun d os => cell_regrown (hg1 9 _ rfl) d os
 have B9 := fun d os => cell_regrown (hg2 9 _ rfl) d os
 have A10 := fun d os => cell_regrown (hg1 10 _ rfl) d os
 have B10 := fun d os => cell_regrown (hg2 10 _ rfl) d os
 have A11 := fun d os => cell_regrown (hg1 11 _ rfl) d os
 have B11 := fun d os => cell_regrown (hg2 11 _ rfl) d os
 have A12 := fun d os => cell_regrown (hg1 12 _ rfl) d os
 have B12 := fun d os => cell_regrown (hg2 12 _ rfl) d os
 have A13 := fun d os => cell_regrown (hg1 13 _ rfl) d os
 have B13 := fun d os => cell_regrown (hg2 13 _ rfl) d os
 have A14 := fun d os => cell_regrown (hg1 14 _ rfl) d os
 have B14 := fun d os => cell_regrown (hg2 14 _ rfl) d os
 have A15 := fun d os => cell_regrown (hg1 15 _ rfl) d os
 have B15 := fun d os => cell_regrown (hg2 15 _ rfl) d os
 have A16 := fun d os => cell_regrown (hg1 16 _ rfl) d os
 have B16 := fun d os => cell_regrown (hg2 16 _ rfl) d os
 have A17 := fun d os => cell_regrown (hg1 17 _ rfl) d os
 have B17 := fun d os => cell_regrown (hg2 17 _ rfl) d os
 have A18 := fun d os => cell_regrown (hg1 18 _ rfl) d os
 have B18 := fun d os => cell_regrown (hg2 18 _ rfl) d os
 have A19 := fun d os => cell_regrown (hg1 19 _ rfl) d os
 have B19 := fun d os => cell_regrown (hg2 19 _ rfl) d os
 have A20 := fun d os => cell_regrown (hg1 20 _ rfl) d os
 have B20 := fun d os => cell_regrown (hg2 20 _ rfl) d os
 have A21 := fun d os => cell_regrown (hg1 21 _ rfl) d os
 have B21 := fun d os => cell_regrown (hg2 21 _ rfl) d os
 have A22 := fun d os => cell_regrown (hg1 22 _ rfl) d os
 have B22 := fun d os => cell_regrown (hg2 22 _ rfl) d os
 simp only [Nat.add_zero] at A0 B0
 clear hg1 hg2 hj hk hn1 hn2
 refine wp_region_quiet_below hmo (by kernel_rfl) (WQ.out ?_)
 repeat (refine WQ.step (fun K hK => ?_); go_simp; refine hK _ ?_; clear hK K)
 refine WQ.step (fun K hK => ?_)
 go_simp
 refine ⟨.bool z, fun aa => ?_, hK _ ?_⟩
 ·clear hK
  rw [HZ.out]
  by_cases e1 : J1.dem = J2.dem <;> by_cases e2 : J1.part = J2.part <;> by_cases e3 : J1.left = J2.left <;> by_cases e4 : J1.struck = J2.struck <;> by_cases e5 : J1.fails = J2.fails <;> simp only [e1, e2, e3, e4, e5, if_true, if_false, and_self]
 clear hK K
 repeat (refine WQ.step (fun K hK => ?_); go_simp; refine hK _ ?_; clear hK K)
 refine WQ.nil ?_
 intro _ hw'
 obtain ⟨⟨dq, osq⟩, hw''⟩ := hw'
 subst hw''
 exact HQ.out _ _ _ _ _ _ _ _ _ _ _ _ _ _ _ _ _ _ _ _ _ _ _ _ _ _ _ _ _ _ _ _ _ _ _ _ _ _ _ _ dq osq
set_option maxRecDepth 100000 in
theorem r22 (t0 t1 t2 t3 t4 t5 t6 t7 t9 t10 t15 t16 t17 t18 t19 t20 t21 t22 t23 t24 t25 t26 t27 t28 t29 t30 t31 t32 t33 t34 t35 t36 t37 t38 t39 t40 t41 t42 t43 t44 t45 t46 t47 t48 t49 t50 t51 t52 t53 t54 t55 t56 t57 t58 t59 t60 t61 t62 t63 t64 t65 t66 t67 t68 t69 t70 t71 t72 t73 t74 t75 t76 t77 t78 t79 t80 t81 t82 t83 t84 t85 t86 t87 t88 t89 t90 t91 t92 t93 t94 t95 t96 t97 t98 t99 t100 t101 t102 t103 t104 t105 t106 t107 t108 t109 t110 t111 t112 t113 t114 t115 t116 t117 t118 t119 t120 t121 t122 t123 t124 t125 t126 t127 t128 t129 t130 t131 t132 t133 t134 t135 t136 t137 t138 t139 t140 t141 t142 t143 t144 t145 t146 t147 t148 t149 t150 t151 : Value) (ds : List Deferred) (g1 g2 n1 n2 c1 c2 j kk : Nat) (w : World) (Q : Exit → Act → World → Prop) (tk : Nat → Tk) (i1 i2 : Nat) (J1 J2 : Jb) (hg1 : w.rangeAt g1 (j * 23) (jpc tk (i1, J1))) (hg2 : w.rangeAt g2 (kk * 23) (jpc tk (i2, J2))) (hj : j < n1) (hk : kk < n2) (hn1 : n1 ≤ 16) (hn2 : n2 ≤ 16) (r : Bool)
  (hQ : ∀ (z : Bool), (z = true → r = true ∨ (i1 = i2 ∧ J1.no = J2.no ∧ J1 ≠ J2)) → ∀ (x83 x84 x85 x86 x87 x88 x89 x90 x91 x92 x93 x94 x95 x96 x97 x98 x99 x100 x101 x102 x103 x104 x105 x106 x107 x108 x109 x110 x111 x112 x113 x114 x115 x116 x117 x118 x119 x120 x121 x122 : Value) (dq : Nat) (osq : Array Obj), Q .normal { tmps := #[t0, t1, t2, t3, t4, t5, t6, t7, .slice (some ⟨g1, 0, none⟩) n1 c1, t9, t10, .slice (some ⟨g2, 0, none⟩) n2 c2, .int .i64 (kk : Nat), .bool z, .int .i64 (j : Nat), t15, t16, t17, t18, t19, t20, t21, t22, t23, t24, t25, t26, t27, t28, t29, t30, t31, t32, t33, t34, t35, t36, t37, t38, t39, t40, t41, t42, t43, t44, t45, t46, t47, t48, t49, t50, t51, t52, t53, t54, t55, t56, t57, t58, t59, t60, t61, t62, t63, t64, t65, t66, t67, t68, t69, t70, t71, t72, t73, t74, t75, t76, t77, t78, t79, t80, t81, t82, x83, x84, x85, x86, x87, x88, x89, x90, x91, x92, x93, x94, x95, x96, x97, x98, x99, x100, x101, x102, x103, x104, x105, x106, x107, x108, x109, x110, x111, x112, x113, x114, x115, x116, x117, x118, x119, x120, x121, x122, t123, t124, t125, t126, t127, t128, t129, t130, t131, t132, t133, t134, t135, t136, t137, t138, t139, t140, t141, t142, t143, t144, t145, t146, t147, t148, t149, t150, t151], defers := ds } (Sort.grow (redrawn w dq) osq)) :
  ∀ ops, opsOf Tryz.f4 22 = some ops → (Code.region 22 ops true).wp Tryz.prog Q { tmps := #[t0, t1, t2, t3, t4, t5, t6, t7, .slice (some ⟨g1, 0, none⟩) n1 c1, t9, t10, .slice (some ⟨g2, 0, none⟩) n2 c2, .int .i64 (kk : Nat), .bool r, .int .i64 (j : Nat), t15, t16, t17, t18, t19, t20, t21, t22, t23, t24, t25, t26, t27, t28, t29, t30, t31, t32, t33, t34, t35, t36, t37, t38, t39, t40, t41, t42, t43, t44, t45, t46, t47, t48, t49, t50, t51, t52, t53, t54, t55, t56, t57, t58, t59, t60, t61, t62, t63, t64, t65, t66, t67, t68, t69, t70, t71, t72, t73, t74, t75, t76, t77, t78, t79, t80, t81, t82, t83, t84, t85, t86, t87, t88, t89, t90, t91, t92, t93, t94, t95, t96, t97, t98, t99, t100, t101, t102, t103, t104, t105, t106, t107, t108, t109, t110, t111, t112, t113, t114, t115, t116, t117, t118, t119, t120, t121, t122, t123, t124, t125, t126, t127, t128, t129, t130, t131, t132, t133, t134, t135, t136, t137, t138, t139, t140, t141, t142, t143, t144, t145, t146, t147, t148, t149, t150, t151], defers := ds } w := by
 cases r
 ·by_cases hti : i1 = i2
  ·by_cases hno : J1.no = J2.no
   ·exact r22_d t0 t1 t2 t3 t4 t5 t6 t7 t9 t10 t15 t16 t17 t18 t19 t20 t21 t22 t23 t24 t25 t26 t27 t28 t29 t30 t31 t32 t33 t34 t35 t36 t37 t38 t39 t40 t41 t42 t43 t44 t45 t46 t47 t48 t49 t50 t51 t52 t53 t54 t55 t56 t57 t58 t59 t60 t61 t62 t63 t64 t65 t66 t67 t68 t69 t70 t71 t72 t73 t74 t75 t76 t77 t78 t79 t80 t81 t82 t83 t84 t85 t86 t87 t88 t89 t90 t91 t92 t93 t94 t95 t96 t97 t98 t99 t100 t101 t102 t103 t104 t105 t106 t107 t108 t109 t110 t111 t112 t113 t114 t115 t116 t117 t118 t119 t120 t121 t122 t123 t124 t125 t126 t127 t128 t129 t130 t131 t132 t133 t134 t135 t136 t137 t138 t139 t140 t141 t142 t143 t144 t145 t146 t147 t148 t149 t150 t151 ds g1 g2 n1 n2 c1 c2 j kk w Q tk i1 i2 J1 J2 hg1 hg2 hj hk hn1 hn2 hti hno _ rfl (hQ _ (fun h => .inr ⟨hti, hno, fun e => by subst e; simp at h⟩))
   ·exact r22_c t0 t1 t2 t3 t4 t5 t6 t7 t9 t10 t15 t16 t17 t18 t19 t20 t21 t22 t23 t24 t25 t26 t27 t28 t29 t30 t31 t32 t33 t34 t35 t36 t37 t38 t39 t40 t41 t42 t43 t44 t45 t46 t47 t48 t49 t50 t51 t52 t53 t54 t55 t56 t57 t58 t59 t60 t61 t62 t63 t64 t65 t66 t67 t68 t69 t70 t71 t72 t73 t74 t75 t76 t77 t78 t79 t80 t81 t82 t83 t84 t85 t86 t87 t88 t89 t90 t91 t92 t93 t94 t95 t96 t97 t98 t99 t100 t101 t102 t103 t104 t105 t106 t107 t108 t109 t110 t111 t112 t113 t114 t115 t116 t117 t118 t119 t120 t121 t122 t123 t124 t125 t126 t127 t128 t129 t130 t131 t132 t133 t134 t135 t136 t137 t138 t139 t140 t141 t142 t143 t144 t145 t146 t147 t148 t149 t150 t151 ds g1 g2 n1 n2 c1 c2 j kk w Q tk i1 i2 J1 J2 hg1 hg2 hj hk hn1 hn2 hti hno (hQ false (fun h => by cases h))
  ·exact r22_b t0 t1 t2 t3 t4 t5 t6 t7 t9 t10 t15 t16 t17 t18 t19 t20 t21 t22 t23 t24 t25 t26 t27 t28 t29 t30 t31 t32 t33 t34 t35 t36 t37 t38 t39 t40 t41 t42 t43 t44 t45 t46 t47 t48 t49 t50 t51 t52 t53 t54 t55 t56 t57 t58 t59 t60 t61 t62 t63 t64 t65 t66 t67 t68 t69 t70 t71 t72 t73 t74 t75 t76 t77 t78 t79 t80 t81 t82 t83 t84 t85 t86 t87 t88 t89 t90 t91 t92 t93 t94 t95 t96 t97 t98 t99 t100 t101 t102 t103 t104 t105 t106 t107 t108 t109 t110 t111 t112 t113 t114 t115 t116 t117 t118 t119 t120 t121 t122 t123 t124 t125 t126 t127 t128 t129 t130 t131 t132 t133 t134 t135 t136 t137 t138 t139 t140 t141 t142 t143 t144 t145 t146 t147 t148 t149 t150 t151 ds g1 g2 n1 n2 c1 c2 j kk w Q tk i1 i2 J1 J2 hg1 hg2 hj hk hn1 hn2 hti (hQ false (fun h => by cases h))
 ·exact r22_a t0 t1 t2 t3 t4 t5 t6 t7 t9 t10 t15 t16 t17 t18 t19 t20 t21 t22 t23 t24 t25 t26 t27 t28 t29 t30 t31 t32 t33 t34 t35 t36 t37 t38 t39 t40 t41 t42 t43 t44 t45 t46 t47 t48 t49 t50 t51 t52 t53 t54 t55 t56 t57 t58 t59 t60 t61 t62 t63 t64 t65 t66 t67 t68 t69 t70 t71 t72 t73 t74 t75 t76 t77 t78 t79 t80 t81 t82 t83 t84 t85 t86 t87 t88 t89 t90 t91 t92 t93 t94 t95 t96 t97 t98 t99 t100 t101 t102 t103 t104 t105 t106 t107 t108 t109 t110 t111 t112 t113 t114 t115 t116 t117 t118 t119 t120 t121 t122 t123 t124 t125 t126 t127 t128 t129 t130 t131 t132 t133 t134 t135 t136 t137 t138 t139 t140 t141 t142 t143 t144 t145 t146 t147 t148 t149 t150 t151 ds g1 g2 n1 n2 c1 c2 j kk w Q (hQ true (fun _ => .inl rfl))
end
end Go.Proofs.YtnoahekcemfmcaaGreatDoor
