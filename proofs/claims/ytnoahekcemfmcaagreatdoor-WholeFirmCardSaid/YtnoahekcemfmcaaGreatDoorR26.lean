/- A part of the walk: Xj Xk Xl Xm Xn. -/
import Derived.Test.YtnoahekcemfmcaaGreatDoorR25
import Derived.MapKept
namespace Go.Proofs.YtnoahekcemfmcaaGreatDoor
set_option linter.unusedVariables false
set_option linter.unusedSimpArgs false
set_option maxHeartbeats 80000000
set_option maxRecDepth 100000
section
open Go.RowKit
section
variable {B n:Nat} {A:XFix} {bu:Int} {tk:Nat → Tk} {w w':World} {s:St} {out:List Ev} {Mx:Nat} {col:Nat → Nat} {F:Nat → Prop} {hm:List Q} {so:Value} {jbk:Nat → Nat} {gs:List Gate} {kj:Nat → Option Jb} {T:Nat → Prop}
theorem XW.known (h:XW B A bu n tk w s out Mx col F hm so jbk gs kj) {i:Nat} (hi:i < n) (J:Jb) (hJ:JbOk (tk i) J ∧ 0 ≤ J.fails ∧ J.fails ≤ Mx ∧ J.left ≤ 2147483648 ∧ J.rel ≤ s.now) {hm':List Q} (hp:HH B w' A.ph F n hm') (hf:Fr F w w')
  (hk':∀ q,q ∈ hm' ↔ q = keyJ tk i J ∨ q ∈ hm ∧ q.2.2.2 ≠ (i:Int)):XW B A bu n tk w' s out Mx col F hm' so jbk gs (upd kj i (some J)) ∧ XR col w col w':=by
 have cc:=h.c
 have h16:=cc.n16
 have ne:∀ {k c:Nat},col k = c → c ≠ 2 → ¬ F k:=fun e hc t=>hc (by rw [← e];exact cc.hp _ t)
 have lt:∀ {k c:Nat},col k = c → c ≠ 0 → k < w.heap.size:=fun e hc=>(h.c.lt _ (by rw [e];exact hc)).2
 refine ⟨⟨h.f.keep hf (ne cc.x (by omega)),fun j hj=>rg_fr hf (lt cc.tb (by omega)) (ne cc.tb (by omega)) (h.tsk j hj),
  h.jb.keep hf (lt cc.jb (by omega)) (ne cc.jb (by omega)) (fun i J hi e=>⟨lt (cc.j i J hi e) (by omega),ne (cc.j i J hi e) (by omega)⟩),
  h.sk.keep hf (lt cc.sb (by omega)) (ne cc.sb (by omega)) (fun i hi=>⟨ne (cc.sk i hi).1 (by omega),ne (cc.sk i hi).2.1 (by omega),ne (cc.sk i hi).2.2.1 (by omega),ne (cc.sk i hi).2.2.2 (by omega)⟩),
  hp,h.g.keep hf (ne cc.g.1 (by omega)) (ne cc.g.2 (by omega)),?_,
  ownsRow_keep h.o (fun k hk=>hf.block k (lt (cc.o k hk) (by omega)) (ne (cc.o k hk) (by omega))),{ cc with lt:=fun k hk=>⟨(cc.lt k hk).1,Nat.lt_of_lt_of_le (cc.lt k hk).2 hf.size⟩ },h.gl,h.ga,fun q=>?_,h.ok,fun k K hk e=>?_,h.no,h.mx⟩,
  XR.of_fr hf (fun k e=>by rw [cc.hp k e];omega)⟩
 ·obtain ⟨f,m,ef,tf,a⟩:=h.t
  exact ⟨f,m,ef,tf,a.keep hf (ne cc.t.1 (by omega)) (ne cc.t.2.1 (by omega)) (ne cc.t.2.2 (by omega))⟩
 ·rw [hk',h.hk]
  constructor
  ·rintro (rfl | ⟨⟨k,K,hk,e,rfl⟩,hne⟩)
   ·exact ⟨i,J,hi,upd_self _ _ _,rfl⟩
   ·have hki:k ≠ i:=fun e'=>by subst e';simp [keyJ] at hne
    exact ⟨k,K,hk,(upd_ne _ _ hki).trans e,rfl⟩
  ·rintro ⟨k,K,hk,e,rfl⟩
   by_cases hki:k = i
   ·subst hki;rw [upd_self] at e;cases e;exact .inl rfl
   ·rw [upd_ne _ _ hki] at e;exact .inr ⟨⟨k,K,hk,e,rfl⟩,by simp [keyJ];omega⟩
 ·by_cases hki:k = i
  ·subst hki;rw [upd_self] at e;cases e;exact hJ
  ·rw [upd_ne _ _ hki] at e;exact h.jk k K hk e
theorem XW.same (h:XW B A bu n tk w s out Mx col F hm so jbk gs kj) {i:Nat} (hi:i < n) {J0:Jb} (h0:kj i = some J0) (J:Jb) (hJ:JbOk (tk i) J ∧ 0 ≤ J.fails ∧ J.fails ≤ Mx ∧ J.left ≤ 2147483648 ∧ J.rel ≤ s.now) (hkey:keyJ tk i J = keyJ tk i J0):XW B A bu n tk w s out Mx col F hm so jbk gs (upd kj i (some J)) :=
 (h.known hi J hJ h.hp (Fr.refl _ _) (fun q=>by
  have hin:keyJ tk i J0 ∈ hm:=(h.hk _).2 ⟨i,J0,hi,h0,rfl⟩
  constructor
  ·intro hq
   obtain ⟨k,K,hk,e,rfl⟩:=(h.hk q).1 hq
   by_cases hki:k = i
   ·subst hki;rw [h0] at e;cases e;exact .inl hkey.symm
   ·exact .inr ⟨hq,by simp [keyJ];omega⟩
  ·rintro (rfl | ⟨hq,_⟩)
   ·rw [hkey];exact hin
   ·exact hq)).1
theorem chg_new (h:XW B A bu n tk w s out Mx col F hm so jbk gs kj) {i:Nat} (hi:i < n) {J0:Jb} (h0:kj i = some J0) (J:Jb):∀ q,q ∈ chgM hm (keyJ tk i J) ↔ q = keyJ tk i J ∨ q ∈ hm ∧ q.2.2.2 ≠ (i:Int):=fun q=>by
 have hin:keyJ tk i J0 ∈ hm:=(h.hk _).2 ⟨i,J0,hi,h0,rfl⟩
 unfold chgM
 rw [if_pos (List.any_eq_true.2 ⟨_,hin,by simp [keyJ]⟩),(insK_perm _ _).mem_iff,List.mem_cons,List.mem_filter]
 simp [keyJ]
theorem called_is (h:XW B A bu n tk w s out Mx col F hm so jbk gs kj) (i:Nat) (J J0:Jb) (hi:i < n) (hJ:s.job i = some J) (h0:kj i = some J0) (hok:JbOk (tk i) J ∧ 0 ≤ J.fails ∧ J.fails ≤ Mx ∧ J.left ≤ 2147483648 ∧ J.rel ≤ s.now) (ho:out.length ≤ 100000000) :
  Calls Tryz.prog 73 #[.pointer (some ⟨A.x,0,none⟩),.int .i64 i] w fun e w'=>e = .returned (.tuple #[]) ∧
   ∃ col' so',XW B A bu n tk w' s (out ++ [tell tk s 7 i J]) Mx col' F (chgM hm (keyJ tk i J)) so' jbk gs (upd kj i (some J)) ∧ XR col w col' w':=by
 have hi0:(0:Int) ≤ (i:Int):=by omega
 have hiI:(i:Int) < (n:Int):=by omega
 have hn16:=h.c.n16
 have H:=Lib.hid h
 have HJ:=Lib.hid hJ
 clear h hJ
 go_enter Tryz.func73,Tryz.ntmps73
 go_wp2_with fail
 have HQ:Hid (∀ w',Fr F w w' → w'.cell? ⟨A.x,5,none⟩ = some (.pointer (some ⟨A.ph,0,none⟩)) ∧ w'.cell? ⟨A.x,3,none⟩ = some (.slice (some ⟨A.jb,0,none⟩) n A.jc) ∧ w'.cell? ⟨A.jb,i,none⟩ = some (.pointer (some ⟨jbk i,0,none⟩)) ∧ w'.rangeAt (jbk i) 0 (jbc i (tk i) J) ∧ Fr F w w'):=fun W hf=>by
  have cc:=H.out.c
  have ne:∀ {k c:Nat},col k = c → c ≠ 2 → ¬ F k:=fun e hc t=>hc (by rw [← e];exact cc.hp _ t)
  have lt:∀ {k c:Nat},col k = c → c ≠ 0 → k < w.heap.size:=fun e hc=>(cc.lt _ (by rw [e];exact hc)).2
  have hr:=H.out.jb.row i hi
  rw [HJ.out] at hr
  exact ⟨(hf.cell (p:=⟨A.x,5,none⟩) (lt cc.x (by omega)) (ne cc.x (by omega))).trans H.out.f.f5,(hf.cell (p:=⟨A.x,3,none⟩) (lt cc.x (by omega)) (ne cc.x (by omega))).trans H.out.f.f3,(hf.cell (p:=⟨A.jb,i,none⟩) (lt cc.jb (by omega)) (ne cc.jb (by omega))).trans hr,
   rg_fr hf (lt (cc.j i J hi HJ.out) (by omega)) (ne (cc.j i J hi HJ.out) (by omega)) (H.out.jb.rg i J hi HJ.out),hf⟩
 have HKY:=Lib.hid fun W=>key_any (i:Int) (tk i) J W
 rw [jbv_eq] at HKY
 refine wp_region_held_drew (S:=(fun w'=>w'.cell? ⟨A.x,5,none⟩ = some (.pointer (some ⟨A.ph,0,none⟩)) ∧ w'.cell? ⟨A.x,3,none⟩ = some (.slice (some ⟨A.jb,0,none⟩) n A.jc) ∧ w'.cell? ⟨A.jb,i,none⟩ = some (.pointer (some ⟨jbk i,0,none⟩)) ∧ w'.rangeAt (jbk i) 0 (jbc i (tk i) J) ∧ Fr F w w')) (by kernel_rfl) ?hS0c (fun hHeld=>?_)
 case hS0c=>(try dsimp only);exact HQ.out _ ((Fr.refl _ _).drew)
 refine wtk (i:=0) ?_
 try simp only [Act.put,List.setIfInBounds_toArray,List.set]
 refine wtk (i:=1) ?_
 try simp only [Act.put,List.setIfInBounds_toArray,List.set]
 refine wtk (i:=2) ?_
 try simp only [Act.put,List.setIfInBounds_toArray,List.set]
 refine wtk (i:=3) ?_
 try simp only [Act.put,List.setIfInBounds_toArray,List.set]
 refine wtk (i:=4) ?_
 try simp only [Act.put,List.setIfInBounds_toArray,List.set]
 refine wtk (i:=5) ?_
 try simp only [Act.put,List.setIfInBounds_toArray,List.set]
 refine wtk (i:=6) ?_
 try simp only [Act.put,List.setIfInBounds_toArray,List.set]
 refine wtk (i:=7) ?_
 try simp only [Act.put,List.setIfInBounds_toArray,List.set]
 refine wtk (i:=8) ?_
 try simp only [Act.put,List.setIfInBounds_toArray,List.set]
 refine wtk (i:=9) ?_
 try simp only [Act.put,List.setIfInBounds_toArray,List.set]
 refine wtk (i:=10) ?_
 try simp only [Act.put,List.setIfInBounds_toArray,List.set]
 refine wtk (i:=11) ?_
 try simp only [Act.put,List.setIfInBounds_toArray,List.set]
 refine wpAnyH_take (i := 12) (oi := { dst := some 16, op := Op.load 59 (Operand.tmp 15), type := 59, pos := "exec.go:148", after := #[{ on := 11, ground := Ground.data }], guard := none }) rfl (by kernel_rfl) (by kernel_rfl) (by kernel_rfl) (fun _ _ _ h => h) (yieldsIf_load_mid (by rfl) 59 _ rfl (jbk i) 0 rfl (jbc i (tk i) J) _ ?hSc13 Tryz.underlying59 rfl Tryz.size59) (by assumption) ?_
 case hSc13=>(intro wS hSw;(try dsimp only at hSw);exact hSw.2.2.2.1)
 try simp only [Act.put,List.setIfInBounds_toArray,List.set]
 refine wpAnyH_ready (rs:=[13]) (by kernel_rfl) (by simp) ?_
 refine arc (fun K hK=>?_) AllReadyH.nil
 go_simp;go_at_call 68;refine Calls.mono (HKY.out _) ?_;rintro e w8 ⟨rfl,hb8⟩;have hB8:Below w.heap.size w w8:=(bel_drew (Below.refl _ _)).trans hb8
 refine hK.out _ _ ?hSc14 (fun hHeld2=>?hrc14)
 case hSc14=>(try dsimp only);exact HQ.out _ (Fr.of_below hB8)
 clear hK K hHeld
 have hHeld:=hHeld2
 clear hHeld2
 try simp only [Act.put,List.setIfInBounds_toArray,List.set]
 refine wpAnyH_ready (rs:=[14]) (by kernel_rfl) (by simp) ?_
 refine arc (fun K hK=>?_) AllReadyH.nil
 go_simp;go_at_call 107;refine Calls.mono (change_m (H.out.hp.below hB8) (keyJ tk i J)) ?_;rintro e w9 ⟨rfl,hp9,hf9⟩;have hF9:Fr F w w9:=(Fr.of_below (S:=F) hB8).trans hf9 (fun _ _ h=>h) (fun _ _ h=>h)
 refine hK.out _ _ ?hSc15 (fun hHeld2=>?hrc15)
 case hSc15=>(try dsimp only);exact HQ.out _ hF9
 clear hK K hHeld
 have hHeld:=hHeld2
 clear hHeld2
 try simp only [Act.put,List.setIfInBounds_toArray,List.set]
 refine wpAnyH_done (by kernel_rfl) ?_ _
 obtain ⟨HW9,HR9⟩:=H.out.known hi J hok hp9 hF9 (chg_new H.out hi h0 J)
 have HTE:=Lib.hid (tell_is HW9 7 i J (by omega) (by omega) hi HJ.out ho)
 have HRR:=Lib.hid HR9
 clear HW9 HR9 hp9 hF9 hf9 hHeld hB8 hb8 HQ HKY
 go_wp2_with (go_at_call 69;refine HTE.out.mono ?_;rintro e w10 ⟨rfl,col10,so10,HW10,HR10⟩)
 go_end0
 exact ⟨rfl,col10,so10,HW10,HRR.out.trans HR10⟩
end
end
section
open Go.RowKit
section
variable {B n:Nat} {A:XFix} {bu:Int} {tk:Nat → Tk} {w w':World} {s:St} {out:List Ev} {Mx:Nat} {col:Nat → Nat} {F:Nat → Prop} {hm:List Q} {so:Value} {jbk:Nat → Nat} {gs:List Gate} {kj:Nat → Option Jb} {T:Nat → Prop}
theorem XW.setLast (h:XW B A bu n tk w s out Mx col F hm so jbk gs kj) (v:Int):XW B A bu n tk (w.setCell ⟨A.x,4,none⟩ (.int .i64 v)) { s with last:=v } out Mx col F hm so jbk gs kj ∧ XR col w col (w.setCell ⟨A.x,4,none⟩ (.int .i64 v)):=by
 have cc:=h.c
 have h16:=cc.n16
 have hf:Fr (fun k=>k = A.x) w (w.setCell ⟨A.x,4,none⟩ (.int .i64 v)):=(Fr.refl (fun k=>k = A.x) w).setCell (p:=⟨A.x,4,none⟩) rfl _
 have ne:∀ {k c:Nat},col k = c → c ≠ 1 → ¬ k = A.x:=fun e hc=>col_ne e cc.x hc
 have lt:∀ {k c:Nat},col k = c → c ≠ 0 → k < w.heap.size:=fun e hc=>(h.c.lt _ (by rw [e];exact hc)).2
 refine ⟨⟨⟨?_,?_,?_,?_,?_,?_,?_,?_,?_,?_,fun o=>by rw [World.frozen?_setCell];exact h.f.fz o⟩,fun j hj=>rg_fr hf (lt cc.tb (by omega)) (ne cc.tb (by omega)) (h.tsk j hj),
  h.jb.keep hf (lt cc.jb (by omega)) (ne cc.jb (by omega)) (fun i J hi e=>⟨lt (cc.j i J hi e) (by omega),ne (cc.j i J hi e) (by omega)⟩),
  h.sk.keep hf (lt cc.sb (by omega)) (ne cc.sb (by omega)) (fun i hi=>⟨ne (cc.sk i hi).1 (by omega),ne (cc.sk i hi).2.1 (by omega),ne (cc.sk i hi).2.2.1 (by omega),ne (cc.sk i hi).2.2.2 (by omega)⟩),
  h.hp.keep hf (fun k hk=>ne (cc.hp k hk) (by omega)),h.g.keep hf (ne cc.g.1 (by omega)) (ne cc.g.2 (by omega)),?_,
  ownsRow_keep h.o (fun k hk=>hf.block k (lt (cc.o k hk) (by omega)) (ne (cc.o k hk) (by omega))),{ cc with lt:=fun k hk=>⟨(cc.lt k hk).1,Nat.lt_of_lt_of_le (cc.lt k hk).2 hf.size⟩ },h.gl,h.ga,h.hk,h.ok,h.jk,h.no,h.mx⟩,
  XR.of_fr hf (fun k e=>by rw [e,cc.x];omega)⟩
 ·rw [World.cell?_setCell_other _ _ _ _ (addr_ne (by omega))];exact h.f.f0
 ·rw [World.cell?_setCell_other _ _ _ _ (addr_ne (by omega))];exact h.f.f1
 ·rw [World.cell?_setCell_other _ _ _ _ (addr_ne (by omega))];exact h.f.f2
 ·rw [World.cell?_setCell_other _ _ _ _ (addr_ne (by omega))];exact h.f.f3
 ·exact World.cell?_setCell_same _ _ _ h.f.f4
 ·rw [World.cell?_setCell_other _ _ _ _ (addr_ne (by omega))];exact h.f.f5
 ·rw [World.cell?_setCell_other _ _ _ _ (addr_ne (by omega))];exact h.f.f6
 ·rw [World.cell?_setCell_other _ _ _ _ (addr_ne (by omega))];exact h.f.f7
 ·rw [World.cell?_setCell_other _ _ _ _ (addr_ne (by omega))];exact h.f.f8
 ·rw [World.cell?_setCell_other _ _ _ _ (addr_ne (by omega))];exact h.f.f9
 ·obtain ⟨f,m,ef,tf,a⟩:=h.t
  exact ⟨f,m,ef,tf,a.keep hf (ne cc.t.1 (by omega)) (ne cc.t.2.1 (by omega)) (ne cc.t.2.2 (by omega))⟩
theorem XW.setJob (h:XW B A bu n tk w s out Mx col F hm so jbk gs kj) {i:Nat} (hi:i < n) {J:Jb} (hJ:s.job i = some J) (K:Jb):XW B A bu n tk (w.setCells (jbk i) 0 (jbc i (tk i) K)) { s with job:=upd s.job i (some K) } out Mx col F hm so jbk gs kj ∧ XR col w col (w.setCells (jbk i) 0 (jbc i (tk i) K)):=by
 have cc:=h.c
 have h16:=cc.n16
 have hcb:=cc.j i J hi hJ
 have hf:Fr (fun k=>k = jbk i) w (w.setCells (jbk i) 0 (jbc i (tk i) K)):=fr_setCells (S:=fun k=>k = jbk i) rfl _ _ _ (Fr.refl _ w)
 have hrgK:(w.setCells (jbk i) 0 (jbc i (tk i) K)).rangeAt (jbk i) 0 (jbc i (tk i) K):=World.rangeAt_setCells_same _ _ _ (jbc i (tk i) K) (by rw [show (jbc i (tk i) K).length = 23 from rfl];exact h.jb.th i J hi hJ)
 have hthK:(w.setCells (jbk i) 0 (jbc i (tk i) K)).there (jbk i) 0 23:=th_setCells _ _ _ (h.jb.th i J hi hJ)
 generalize w.setCells (jbk i) 0 (jbc i (tk i) K) = w2 at *
 have ne:∀ {k c:Nat},col k = c → c ≠ 100 + i → ¬ k = jbk i:=fun e hc=>col_ne e hcb hc
 have lt:∀ {k c:Nat},col k = c → c ≠ 0 → k < w.heap.size:=fun e hc=>(h.c.lt _ (by rw [e];exact hc)).2
 refine ⟨⟨h.f.keep hf (ne cc.x (by omega)),fun j hj=>rg_fr hf (lt cc.tb (by omega)) (ne cc.tb (by omega)) (h.tsk j hj),
  ⟨fun k hk=>?_,fun o=>(hf.frozen (p:=⟨A.jb,o,none⟩) (lt cc.jb (by omega)) (ne cc.jb (by omega))).trans (h.jb.z o),fun k L hk e=>?_,fun k L hk e=>?_⟩,
  h.sk.keep hf (lt cc.sb (by omega)) (ne cc.sb (by omega)) (fun j hj=>⟨ne (cc.sk j hj).1 (by omega),ne (cc.sk j hj).2.1 (by omega),ne (cc.sk j hj).2.2.1 (by omega),ne (cc.sk j hj).2.2.2 (by omega)⟩),
  h.hp.keep hf (fun k hk=>ne (cc.hp k hk) (by omega)),h.g.keep hf (ne cc.g.1 (by omega)) (ne cc.g.2 (by omega)),?_,
  ownsRow_keep h.o (fun k hk=>hf.block k (lt (cc.o k hk) (by omega)) (ne (cc.o k hk) (by omega))),⟨cc.x,cc.tb,cc.jb,cc.sb,cc.sk,cc.hp,cc.g,cc.t,cc.o,fun k L hk e=>?_,fun k hk=>⟨(cc.lt k hk).1,Nat.lt_of_lt_of_le (cc.lt k hk).2 hf.size⟩,h16⟩,h.gl,h.ga,h.hk,h.ok,h.jk,h.no,h.mx⟩,
  XR.of_fr hf (fun k e=>by rw [e,hcb];omega)⟩
 ·have hr:=(hf.cell (p:=⟨A.jb,k,none⟩) (lt cc.jb (by omega)) (ne cc.jb (by omega))).trans (h.jb.row k hk)
  show _ = some (jptr (upd s.job i (some K) k) (jbk k))
  by_cases hki:k = i
  ·subst hki;rw [upd_self,hr,hJ];rfl
  ·rw [upd_ne _ _ hki];exact hr
 ·have e':upd s.job i (some K) k = some L:=e
  by_cases hki:k = i
  ·subst hki;rw [upd_self] at e';cases e'
   exact hrgK
  ·rw [upd_ne _ _ hki] at e'
   have hc:=cc.j k L hk e'
   exact rg_fr hf (lt hc (by omega)) (ne hc (by omega)) (h.jb.rg k L hk e')
 ·have e':upd s.job i (some K) k = some L:=e
  by_cases hki:k = i
  ·subst hki;exact hthK
  ·rw [upd_ne _ _ hki] at e'
   have hc:=cc.j k L hk e'
   exact th_fr (h.jb.th k L hk e') hf (lt hc (by omega)) (ne hc (by omega))
 ·obtain ⟨f,m,ef,tf,a⟩:=h.t
  exact ⟨f,m,ef,tf,a.keep hf (ne cc.t.1 (by omega)) (ne cc.t.2.1 (by omega)) (ne cc.t.2.2 (by omega))⟩
 ·have e':upd s.job i (some K) k = some L:=e
  by_cases hki:k = i
  ·subst hki;exact hcb
  ·rw [upd_ne _ _ hki] at e';exact cc.j k L hk e'
theorem run_none (h:XW B A bu n tk w s out Mx col F hm so jbk gs kj) (hn:hm = []) (hit:Bool) :
  Calls Tryz.prog 41 #[.pointer (some ⟨A.x,0,none⟩),.bool hit] w fun e w'=>e = .returned (.tuple #[]) ∧ XW B A bu n tk w' { s with last:=-1 } out Mx col F hm so jbk gs kj ∧ XR col w col w':=by
 have f5:=h.f.f5
 have HP:=Lib.hid (peek_m h.hp)
 rw [hn] at HP
 have H:=Lib.hid h
 have hxl:A.x < w.heap.size:=block_lt f5
 clear h hn
 unfold peekM qv at HP
 go_enter Tryz.func41,Tryz.ntmps41
 go_wp2_with (go_at_call 70;refine HP.out.mono ?_;rintro e w1 ⟨rfl,hb1⟩;have H1:=H.out.below hb1;have f4:=H1.f.f4;have z4:=H1.f.fz 4;have HH1:=Lib.hid H1;have hx1:A.x < w1.heap.size:=block_lt f4;clear H1)
 obtain ⟨H3,R3⟩:=HH1.out.setLast (-1)
 have hb2:=bel_alloc (Below.refl (w1.setCell ⟨A.x,4,none⟩ (.int .i64 (-1))).heap.size (w1.setCell ⟨A.x,4,none⟩ (.int .i64 (-1)))) (.cells #[.int .i64 0,.int .i64 0,.int .i64 0,.int .i64 0] 166)
 first | go_end0 | refine bodyPost_ret (results_none rfl _ _ _) rfl ?_
 exact ⟨rfl,H3.below hb2,((XR.of_below hb1).trans R3).trans (XR.of_below hb2)⟩
end
end
section
open Go.RowKit
section
variable {B n:Nat} {A:XFix} {bu:Int} {tk:Nat → Tk} {w w':World} {s:St} {out:List Ev} {Mx:Nat} {col:Nat → Nat} {F:Nat → Prop} {hm:List Q} {so:Value} {jbk:Nat → Nat} {gs:List Gate} {kj:Nat → Option Jb} {T:Nat → Prop}
end
end
section
open Go.RowKit
theorem map_at (w:World) (o:Obj):(w.alloc o).heap[w.heap.size]? = some o:=(MapKept.heap_alloc w o).1
theorem map_set (w:World) (o o':Obj):({ w.alloc o with heap:=(w.alloc o).heap.setIfInBounds w.heap.size o' }:World) = w.alloc o':=by
 have:(w.heap.push o).setIfInBounds w.heap.size o' = w.heap.push o':=by
  apply Array.toList_inj.1
  rw [Array.toList_setIfInBounds,Array.toList_push,Array.toList_push,List.set_append_right _ _ (by simp)]
  simp
 show ({ w with heap:=(w.heap.push o).setIfInBounds w.heap.size o' }:World) = { w with heap:=w.heap.push o' }
 rw [this]
theorem map_put {kt et:TypeId} (hm:Tryz.prog.underlying 174 = some (.map kt et)) {d:TypeDesc} (hk:Tryz.prog.underlying kt = some d) (hkey:MapKept.IsKey d (.int .i64 0)) (w:World) (es:Array MapEntry) (c:Nat) (k:Int) (v:Value) (hck:(Instr.checkKey false 10000 kt (.int .i64 k)).run Tryz.prog (w.alloc (.map es c)) = .ok () (w.alloc (.map es c)))
  (h:Instr.findNow d (.int .i64 k) es.toList 0 = some none) :
  (Instr.mapUpdate 174 (.map (some w.heap.size)) (.int .i64 k) v).run Tryz.prog (w.alloc (.map es c)) = .ok () (w.alloc (.map (es.push { key:=.int .i64 k,val:=v,born:=c }) (c + 1))):=by
 have hb:=map_at w (.map es c)
 simp [Instr.mapUpdate,run_underlying hm,MapKept.run_getObj_map hb,hck,MapKept.run_findKey hk h,MapKept.run_setObj_map _ hb,Result.andThen]
 exact map_set w _ _
theorem map_ck (w:World) (b:Bool) (k:Int):(Instr.checkKey b 10000 3 (.int .i64 k)).run Tryz.prog w = .ok () w:=MapKept.run_checkKey (k:=.int .i64 k) Tryz.underlying3 (by unfold MapKept.IsKey;first | trivial | simp) b 9999
theorem map_put3 (w:World) (es:Array MapEntry) (c:Nat) (k:Int) (v:Value) (h:Instr.findNow (.int .i64) (.int .i64 k) es.toList 0 = some none) :
  (Instr.mapUpdate 174 (.map (some w.heap.size)) (.int .i64 k) v).run Tryz.prog (w.alloc (.map es c)) = .ok () (w.alloc (.map (es.push { key:=.int .i64 k,val:=v,born:=c }) (c + 1))) :=
 map_put Tryz.underlying174 Tryz.underlying3 (by unfold MapKept.IsKey;first | trivial | simp) w es c k v (map_ck _ _ _) h
theorem map_get3 (w:World) (es:Array MapEntry) (c:Nat) (k:Int) (v:Value) (i:Nat) (h:Instr.findNow (.int .i64) (.int .i64 k) es.toList 0 = some (some (i,v))) :
  (Instr.lookup 174 (.map (some w.heap.size)) (.int .i64 k) true).run Tryz.prog (w.alloc (.map es c)) = .ok (.tuple #[v,.bool true]) (w.alloc (.map es c)):=by
 have hb:=map_at w (.map es c)
 simp [Instr.lookup,run_underlying Tryz.underlying174,MapKept.run_getObj_map hb,map_ck,MapKept.run_findKey Tryz.underlying3 h,Result.andThen]
end
section
open Go.RowKit
theorem rstep_bd {t:Tk} {j:Jb} (ht:t.Ok) (h:JbOk t j) (hit:Bool) (hl:j.left ≤ 2147483648) :
  (rstep t j hit).1.left ≤ 2147483648 ∧ j.fails ≤ (rstep t j hit).1.fails ∧ (rstep t j hit).1.fails ≤ j.fails + 1:=by
 have hp:∀ p,plen t j.dem p ≤ 2147483648:=fun p=>by
  have a1:=ht.k1;have a2:=ht.cd;have a3:=ht.dt;have a4:=ht.tm;have a5:=h.dc
  unfold plen
  split
  ·rename_i e
   have:=(ht.r1 e).2.1
   omega
  ·omega
 have ha:t.Mode ≠ 1 → t.A + t.Cost ≤ 2147483648:=fun e=>by
  have a1:=ht.k1;have a3:=ht.dt;have a4:=ht.tm;have:=(ht.r2 e).2.1
  omega
 have hp0:=hp j.part
 have hp1:=hp (j.part + 1)
 unfold rstep
 split
 ·simp only;omega
 ·split
  ·split
   ·simp only;omega
   ·simp only
    have:=ha (by assumption)
    omega
  ·split
   ·simp only;omega
   ·simp only;omega
section
variable {B n:Nat} {A:XFix} {bu:Int} {tk:Nat → Tk} {w w':World} {s:St} {out:List Ev} {Mx:Nat} {col:Nat → Nat} {F:Nat → Prop} {hm:List Q} {so:Value} {jbk:Nat → Nat} {gs:List Gate} {kj:Nat → Option Jb} {T:Nat → Prop}
theorem step_stays {s:St} {i:Nat} {J:Jb} (ht:(tk i).Ok) (h:JbOk (tk i) J ∧ 0 ≤ J.fails ∧ J.fails ≤ Mx ∧ J.left ≤ 2147483648 ∧ J.rel ≤ s.now) (hit:Bool) {J':Jb} {c:Int} (hst:jstep (tk i) J hit = (J',c)) {s2:St} (hs2:s2 = { s with job:=upd s.job i (some J'),last:=(i:Int) })
  (hr:(runOut tk s2 i J' c).1 = s2):(JbOk (tk i) J' ∧ 0 ≤ J'.fails ∧ J'.fails ≤ (Mx + 1:Nat) ∧ J'.left ≤ 2147483648 ∧ J'.rel ≤ s.now) ∧ (c ≠ 3 → keyJ tk i J' = keyJ tk i J):=by
 obtain ⟨h1,h2,h3,h4,h5⟩:=h
 obtain ⟨_,l1,l2,l3,l4,l5,l6,_,l7,l8,_⟩:=rstep_laws ht h1 hit
 obtain ⟨b1,b2,b3⟩:=rstep_bd ht h1 hit h4
 rcases runOut_job (s:=s) hit ht h1 with ⟨_,k1,k2,k3,k4⟩ | ⟨met,k⟩
 ·rw [hst] at k1 k2
  simp only [Prod.mk.injEq] at k1 k2
  obtain ⟨k2,k5⟩:=k2
  have e1:J'.fails = (rstep (tk i) J hit).1.fails:=by rw [k2]
  have e2:J'.left = (rstep (tk i) J hit).1.left:=by rw [k2]
  have e3:J'.rel = (rstep (tk i) J hit).1.rel:=by rw [k2]
  have e4:J'.must = (rstep (tk i) J hit).1.must:=by rw [k2]
  have e5:urg (tk i) J' = urg (tk i) (rstep (tk i) J hit).1:=by rw [k2];rfl
  refine ⟨⟨k1,by omega,by omega,by omega,by omega⟩,fun hc=>?_⟩
  have hu:urg (tk i) J' = urg (tk i) J:=by
   rw [e5]
   cases hq:urg (tk i) J
   ·cases hq2:urg (tk i) (rstep (tk i) J hit).1
    ·rfl
    ·rcases l7 hq2 with l | l
     ·rw [hq] at l;cases l
     ·exact absurd (k5.trans l) hc
   ·exact l6 hq
  unfold keyJ bandJ
  rw [e4,l3,hu,e3,l2]
 ·have e:(runOut tk s2 i J' c).1 = gone s2 i met:=by
   have k':(runOut tk { s with job:=upd s.job i (some (jstep (tk i) J hit).1),last:=(i:Int) } i (jstep (tk i) J hit).1 (jstep (tk i) J hit).2).1 = gone { s with job:=upd s.job i (some (jstep (tk i) J hit).1),last:=(i:Int) } i met:=k
   rw [hst] at k'
   rw [hs2]
   exact k'
  rw [hr] at e
  have e2:s2.job i = none:=by rw [e];exact upd_self _ _ _
  rw [hs2] at e2
  have e3:upd s.job i (some J') i = none:=e2
  rw [upd_self] at e3
  cases e3
theorem upd_upd {α:Type} (f:Nat → α) (i:Nat) (a b:α):upd (upd f i a) i b = upd f i b:=by
 funext k;unfold upd;split <;> rfl
theorem upd_id {α:Type} (f:Nat → α) (i:Nat) (a:α) (h:f i = a):upd f i a = f:=by
 funext k;unfold upd;split
 ·rename_i e;rw [e,h]
 ·rfl
theorem does_is (h:XW B A bu n tk w s out Mx col F hm so jbk gs kj) (i:Nat) (J J0:Jb) (hi:i < n) (hJ:s.job i = some J) (hkj:kj = upd s.job i (some J0)) (c:Int) (fn:Nat) (hc:c = 1 ∧ fn = 72 ∨ c = 2 ∧ fn = 74 ∨ c = 3 ∧ fn = 73 ∨ c = 4 ∧ fn = 75)
  (hok:(runOut tk s i J c).1 = s → (JbOk (tk i) J ∧ 0 ≤ J.fails ∧ J.fails ≤ Mx ∧ J.left ≤ 2147483648 ∧ J.rel ≤ s.now) ∧ (c ≠ 3 → keyJ tk i J = keyJ tk i J0)) (ho:out.length ≤ 100000000) (hMx:Mx < 1000000) :
  Calls Tryz.prog fn #[.pointer (some ⟨A.x,0,none⟩),.int .i64 i] w fun e w'=>e = .returned (.tuple #[]) ∧
   ∃ col' so' hm',XW B A bu n tk w' (runOut tk s i J c).1 (out ++ (runOut tk s i J c).2) (Mx + 1) col' F hm' so' jbk gs (runOut tk s i J c).1.job ∧ XR col w col' w':=by
 have hk0:kj i = some J0:=by rw [hkj];exact upd_self _ _ _
 have hkJ:upd kj i (some J) = s.job:=by rw [hkj,upd_upd,upd_id _ _ _ hJ]
 have hkN:upd kj i none = upd s.job i none:=by rw [hkj,upd_upd]
 rcases hc with ⟨rfl,rfl⟩ | ⟨rfl,rfl⟩ | ⟨rfl,rfl⟩ | ⟨rfl,rfl⟩
 ·have e:runOut tk s i J 1 = (s,[tell tk s 5 i J]):=rfl
  rw [e] at hok ⊢
  obtain ⟨k1,k2⟩:=hok rfl
  refine (passed_is h i J hi hJ ho).mono ?_
  rintro e w' ⟨rfl,col',so',h',r'⟩
  have h2:=(h'.same hi hk0 J k1 (k2 (by omega))).mxle (Nat.le_succ _) (by omega)
  rw [hkJ] at h2
  exact ⟨rfl,col',so',_,h2,r'⟩
 ·by_cases c1:J.over = true ∧ J.struck = true ∧ J.left = 0
  ·have e:runOut tk s i J 2 = (gone s i false,[tell tk s 10 i J]):=by unfold runOut;simp [c1]
   rw [e]
   refine (fail_10 h i J hi hJ ho hMx c1.1 c1.2.1 c1.2.2).mono ?_
   rintro e w' ⟨rfl,col',so',h',r'⟩
   rw [hkN] at h'
   exact ⟨rfl,col',so',_,h',r'⟩
  ·cases hm1:J.must
   ·have e:runOut tk s i J 2 = (gone s i false,[tell tk s 11 i J]):=by unfold runOut;simp [c1,hm1]
    rw [e]
    have key:Calls Tryz.prog 74 #[.pointer (some ⟨A.x,0,none⟩),.int .i64 i] w fun e w'=>e = .returned (.tuple #[]) ∧ ∃ col' so',XW B A bu n tk w' (gone s i false) (out ++ [tell tk s 11 i J]) (Mx + 1) col' F (hm.filter fun x=>!(x.2.2.2 == (i:Int))) so' jbk gs (upd kj i none) ∧ XR col w col' w':=by
     cases ho1:J.over
     ·exact fail_11a h i J hi hJ ho hMx ho1 hm1
     ·cases hs1:J.struck
      ·exact fail_11b h i J hi hJ ho hMx ho1 hs1 hm1
      ·exact fail_11c h i J hi hJ ho hMx ho1 hs1 (fun e=>c1 ⟨ho1,hs1,e⟩) hm1
    refine key.mono ?_
    rintro e w' ⟨rfl,col',so',h',r'⟩
    rw [hkN] at h'
    exact ⟨rfl,col',so',_,h',r'⟩
   ·have e:runOut tk s i J 2 = (s,[tell tk s 6 i J]):=by unfold runOut;simp [c1,hm1]
    rw [e] at hok ⊢
    obtain ⟨k1,k2⟩:=hok rfl
    have key:Calls Tryz.prog 74 #[.pointer (some ⟨A.x,0,none⟩),.int .i64 i] w fun e w'=>e = .returned (.tuple #[]) ∧ ∃ col' so',XW B A bu n tk w' s (out ++ [tell tk s 6 i J]) Mx col' F hm so' jbk gs kj ∧ XR col w col' w':=by
     cases ho1:J.over
     ·exact fail_6a h i J hi hJ ho hMx ho1 hm1
     ·cases hs1:J.struck
      ·exact fail_6b h i J hi hJ ho hMx ho1 hs1 hm1
      ·exact fail_6c h i J hi hJ ho hMx ho1 hs1 (fun e=>c1 ⟨ho1,hs1,e⟩) hm1
    refine key.mono ?_
    rintro e w' ⟨rfl,col',so',h',r'⟩
    have h2:=(h'.same hi hk0 J k1 (k2 (by omega))).mxle (Nat.le_succ _) (by omega)
    rw [hkJ] at h2
    exact ⟨rfl,col',so',_,h2,r'⟩
 ·have e:runOut tk s i J 3 = (s,[tell tk s 7 i J]):=rfl
  rw [e] at hok ⊢
  obtain ⟨k1,_⟩:=hok rfl
  refine (called_is h i J J0 hi hJ hk0 k1 ho).mono ?_
  rintro e w' ⟨rfl,col',so',h',r'⟩
  have h2:=h'.mxle (Nat.le_succ _) (by omega)
  rw [hkJ] at h2
  exact ⟨rfl,col',so',_,h2,r'⟩
 ·have e:runOut tk s i J 4 = (gone s i true,[tell tk s 8 i J]):=rfl
  rw [e]
  refine (done_is h i J hi hJ ho hMx).mono ?_
  rintro e w' ⟨rfl,col',so',h',r'⟩
  rw [hkN] at h'
  exact ⟨rfl,col',so',_,h',r'⟩
end
end
end Go.Proofs.YtnoahekcemfmcaaGreatDoor
