/- A part of the walk: Xc Xd Xe. -/
import Derived.Test.YtnoahekcemfmcaaGreatDoorR21
namespace Go.Proofs.YtnoahekcemfmcaaGreatDoor
set_option linter.unusedVariables false
set_option linter.unusedSimpArgs false
set_option maxHeartbeats 80000000
set_option maxRecDepth 100000
section
open Go.RowKit
section
variable {B n:Nat} {A:XFix} {bu:Int} {tk:Nat → Tk} {w w':World} {s:St} {out:List Ev} {Mx:Nat} {col:Nat → Nat} {F:Nat → Prop} {hm:List Q} {so:Value} {jbk:Nat → Nat} {gs:List Gate} {kj:Nat → Option Jb} {T:Nat → Prop}
theorem tell_is (h:XW B A bu n tk w s out Mx col F hm so jbk gs kj) (a i:Nat) (J:Jb) (h1:1 ≤ a) (h2:a < 12) (hi:i < n) (hJ:s.job i = some J) (ho:out.length ≤ 100000000) :
  Calls Tryz.prog 69 #[.pointer (some ⟨A.x,0,none⟩),.int .i64 a,.int .i64 i] w fun e w'=>e = .returned (.tuple #[]) ∧
   ∃ col' so',XW B A bu n tk w' s (out ++ [tell tk s a i J]) Mx col' F hm so' jbk gs kj ∧ XR col w col' w':=by
 have hn16:=h.c.n16
 have hi0:(0:Int) ≤ (i:Int):=by omega
 have hiI:(i:Int) < (n:Int):=by omega
 have HF:Hid (∀ (W:World) (o:List Ev) (c:Nat → Nat) (v:Value),XW B A bu n tk W s o Mx c F hm v jbk gs kj →
   W.cell? ⟨A.x,3,none⟩ = some (.slice (some ⟨A.jb,0,none⟩) n A.jc) ∧ W.cell? ⟨A.jb,i,none⟩ = some (.pointer (some ⟨jbk i,0,none⟩)) ∧ W.cell? ⟨jbk i,1,none⟩ = some (.int .i64 J.no) ∧ W.rangeAt (jbk i) 0 (jbc i (tk i) J)):=fun W o c v h=>by
  have hr:=h.jb.row i hi
  rw [hJ] at hr
  have hg:=h.jb.rg i J hi hJ
  exact ⟨h.f.f3,hr,by have:=hg 1 _ rfl;simpa using this,hg⟩
 have HB:=Lib.hid fun W=>band_any i (tk i) J W
 have H:=Lib.hid h
 clear h hJ
 unfold jbv at HB
 go_enter Tryz.func69,Tryz.ntmps69
 go_wp2_with fail
 have HWd:=H.out.keep (T:=fun _=>False) ((Fr.refl _ w).drew) (fun _ h=>h.elim)
 refine wp_region_held_drew (S:=(fun w'=>w'.cell? ⟨A.x,3,none⟩ = some (.slice (some ⟨A.jb,0,none⟩) n A.jc) ∧ w'.cell? ⟨A.jb,i,none⟩ = some (.pointer (some ⟨jbk i,0,none⟩)) ∧ w'.cell? ⟨jbk i,1,none⟩ = some (.int .i64 J.no) ∧ w'.rangeAt (jbk i) 0 (jbc i (tk i) J))) (by kernel_rfl) ?hS0 (fun hHeld=>?_)
 case hS0=>(try dsimp only);exact HF.out _ _ _ _ HWd
 refine wtk (i:=0) ?_
 try simp only [Act.put,List.setIfInBounds_toArray,List.set]
 refine wtk (i:=1) ?_
 try simp only [Act.put,List.setIfInBounds_toArray,List.set]
 refine wtk (i:=2) ?_
 try simp only [Act.put,List.setIfInBounds_toArray,List.set]
 refine wtk (i:=3) ?_
 try simp only [Act.put,List.setIfInBounds_toArray,List.set]
 refine wtk (i:=4) ?_
 try simp only [Act.put,List.setIfInBounds_toArray,List.set]
 refine wtk (i:=5) ?_
 try simp only [Act.put,List.setIfInBounds_toArray,List.set]
 refine wtk (i:=6) ?_
 try simp only [Act.put,List.setIfInBounds_toArray,List.set]
 refine wtk (i:=7) ?_
 try simp only [Act.put,List.setIfInBounds_toArray,List.set]
 refine wtk (i:=8) ?_
 try simp only [Act.put,List.setIfInBounds_toArray,List.set]
 refine wtk (i:=9) ?_
 try simp only [Act.put,List.setIfInBounds_toArray,List.set]
 refine wtk (i:=10) ?_
 try simp only [Act.put,List.setIfInBounds_toArray,List.set]
 refine wtk (i:=11) ?_
 try simp only [Act.put,List.setIfInBounds_toArray,List.set]
 refine wtk (i:=12) ?_
 try simp only [Act.put,List.setIfInBounds_toArray,List.set]
 refine wtk (i:=13) ?_
 try simp only [Act.put,List.setIfInBounds_toArray,List.set]
 refine wtk (i:=14) ?_
 try simp only [Act.put,List.setIfInBounds_toArray,List.set]
 refine wtk (i:=15) ?_
 try simp only [Act.put,List.setIfInBounds_toArray,List.set]
 refine wtk (i:=16) ?_
 try simp only [Act.put,List.setIfInBounds_toArray,List.set]
 refine wtk (i:=17) ?_
 try simp only [Act.put,List.setIfInBounds_toArray,List.set]
 refine wtk (i:=18) ?_
 try simp only [Act.put,List.setIfInBounds_toArray,List.set]
 refine wtk (i:=19) ?_
 try simp only [Act.put,List.setIfInBounds_toArray,List.set]
 refine wtk (i:=20) ?_
 try simp only [Act.put,List.setIfInBounds_toArray,List.set]
 refine wpAnyH_take (i := 21) (oi := { dst := some 27, op := Op.load 59 (Operand.tmp 26), type := 59, pos := "exec.go:104", after := #[{ on := 20, ground := Ground.data }], guard := none }) rfl (by kernel_rfl) (by kernel_rfl) (by kernel_rfl) (fun _ _ _ h => h) (yieldsIf_load_mid (by rfl) 59 _ rfl (jbk i) 0 rfl (jbc i (tk i) J) _ ?hS22 Tryz.underlying59 rfl Tryz.size59) (by assumption) ?_
 case hS22=>(intro wS hSw;(try dsimp only at hSw);exact hSw.2.2.2)
 try simp only [Act.put,List.setIfInBounds_toArray,List.set]
 refine wpAnyH_ready (rs:=[22]) (by kernel_rfl) (by simp) ?_
 refine arc (fun K hK=>?_) AllReadyH.nil
 unfold jbc
 go_simp;go_at_call 105;refine Calls.mono (HB.out _) ?_;rintro e w5 ⟨rfl,hb5⟩;have HW5:=HWd.below hb5
 refine hK.out _ _ ?hS23 (fun hHeld2=>?hr23)
 case hS23=>(try dsimp only);exact HF.out _ _ _ _ HW5
 clear hK K hHeld
 have hHeld:=hHeld2
 clear hHeld2
 try simp only [Act.put,List.setIfInBounds_toArray,List.set]
 refine wpAnyH_ready (rs:=[23]) (by kernel_rfl) (by simp) ?_
 refine arc (fun K hK=>?_) AllReadyH.nil
 go_simp;go_at_call 64;refine Calls.mono (say_is HW5 a i J.no (bandJ (tk i) J) h1 h2 (by omega) ho) ?_;rintro e w6 ⟨rfl,col6,so6,HW6,HR6⟩
 refine hK.out _ _ ?hS24 (fun hHeld2=>?hr24)
 case hS24=>(try dsimp only);exact HF.out _ _ _ _ HW6
 clear hK K hHeld
 have hHeld:=hHeld2
 clear hHeld2
 try simp only [Act.put,List.setIfInBounds_toArray,List.set]
 refine wpAnyH_done (by kernel_rfl) ?_ _
 go_wp2_with fail
 go_end0
 exact ⟨rfl,col6,so6,HW6,(XR.trans (XR.of_fr (T:=fun _=>False) ((Fr.refl _ w).drew) (fun _ h=>h.elim)) (XR.of_below hb5)).trans HR6⟩
end
end
section
open Go.RowKit
section
variable {B n:Nat} {A:XFix} {bu:Int} {tk:Nat → Tk} {w w':World} {s:St} {out:List Ev} {Mx:Nat} {col:Nat → Nat} {F:Nat → Prop} {hm:List Q} {so:Value} {jbk:Nat → Nat} {gs:List Gate} {kj:Nat → Option Jb} {T:Nat → Prop}
theorem XW.gone1 (h:XW B A bu n tk w s out Mx col F hm so jbk gs kj) {i:Nat} (hi:i < n) (met:Bool) (hMx:Mx < 1000000) {w2 w3:World}
  (hp2:HH B w2 A.ph F n (hm.filter fun x=>!(x.2.2.2 == (i:Int)))) (f2:Fr F w w2)
  (hs3:∃ f j cf,SKp w3 (A.sk i) (A.sz i) (A.sp i) (A.sq i) (tk i).K.toNat f (tk i).M.toNat j cf ∧ ringL (tk i).K.toNat f (tk i).K.toNat cf = pushW (s.win i) met ∧ j ≤ Mx + 1)
  (f3:Fr (fun k=>k = A.sk i ∨ k = A.sp i ∨ k = A.sq i) w2 w3) :
  XW B A bu n tk (w3.setCell ⟨A.jb,i,none⟩ (.pointer none)) (gone s i met) out (Mx + 1) col F (hm.filter fun x=>!(x.2.2.2 == (i:Int))) so jbk gs (upd kj i none) ∧ XR col w col (w3.setCell ⟨A.jb,i,none⟩ (.pointer none)):=by
 have h16:=h.c.n16
 have cc:=h.c
 have f4:Fr (fun k=>k = A.jb) w3 (w3.setCell ⟨A.jb,i,none⟩ (.pointer none)):=(Fr.refl (fun k=>k = A.jb) w3).setCell (p:=⟨A.jb,i,none⟩) rfl _
 have hT:Fr (fun k=>col k = 2 ∨ col k = 10 + i ∨ col k = 5) w (w3.setCell ⟨A.jb,i,none⟩ (.pointer none)) :=
  ((f2.mono (T:=fun k=>col k = 2 ∨ col k = 10 + i ∨ col k = 5) (fun k _ e=>.inl (cc.hp k e))).trans f3 (fun _ _ h=>h) (fun k _ e=>.inr (.inl (by
   rcases e with rfl | rfl | rfl
   ·exact (cc.sk i hi).1
   ·exact (cc.sk i hi).2.2.1
   ·exact (cc.sk i hi).2.2.2)))).trans f4 (fun _ _ h=>h) (fun k _ e=>.inr (.inr (by rw [e];exact cc.jb)))
 have ne:∀ {k c:Nat},col k = c → c ≠ 2 → c ≠ 10 + i → c ≠ 5 → ¬ (col k = 2 ∨ col k = 10 + i ∨ col k = 5):=fun e h1 h2 h3 t=>by rcases t with t | t | t <;> omega
 have lt:∀ {k c:Nat},col k = c → c ≠ 0 → k < w.heap.size:=fun e hc=>(h.c.lt _ (by rw [e];exact hc)).2
 have hjl:A.jb < w.heap.size:=lt cc.jb (by omega)
 refine ⟨⟨h.f.keep hT (ne cc.x (by omega) (by omega) (by omega)),fun j hj=>rg_fr hT (lt cc.tb (by omega)) (ne cc.tb (by omega) (by omega) (by omega)) (h.tsk j hj),⟨fun k hk=>?_,fun o=>?_,fun k J hk e=>?_,fun k J hk e=>?_⟩,⟨fun k hk=>?_,fun k hk=>?_⟩,
  hp2.keep (f3.trans f4 (U:=fun k=>(k = A.sk i ∨ k = A.sp i ∨ k = A.sq i) ∨ k = A.jb) (fun _ _ h=>.inl h) (fun _ _ h=>.inr h)) (fun k hk e=>?_),(h.g.keep hT (ne cc.g.1 (by omega) (by omega) (by omega)) (ne cc.g.2 (by omega) (by omega) (by omega))).more (by omega),?_,
  ownsRow_keep h.o (fun k hk=>hT.block k (lt (cc.o k hk) (by omega)) (ne (cc.o k hk) (by omega) (by omega) (by omega))),⟨cc.x,cc.tb,cc.jb,cc.sb,cc.sk,cc.hp,cc.g,cc.t,cc.o,fun k J hk e=>?_,fun k hk=>⟨(cc.lt k hk).1,Nat.lt_of_lt_of_le (cc.lt k hk).2 hT.size⟩,h16⟩,h.gl,h.ga,fun q=>?_,h.ok,fun k J hk e=>?_,h.no,by omega⟩,
  XR.of_fr hT (fun k e=>by rcases e with e | e | e <;> omega)⟩
 ·
  have hT3:Fr (fun k=>col k = 2 ∨ col k = 10 + i) w w3:=(f2.mono (T:=fun k=>col k = 2 ∨ col k = 10 + i) (fun k _ e=>.inl (cc.hp k e))).trans f3 (fun _ _ h=>h) (fun k _ e=>.inr (by
   rcases e with rfl | rfl | rfl
   ·exact (cc.sk i hi).1
   ·exact (cc.sk i hi).2.2.1
   ·exact (cc.sk i hi).2.2.2))
  have hr3:w3.cell? ⟨A.jb,k,none⟩ = some (jptr (s.job k) (jbk k)):=(hT3.cell (p:=⟨A.jb,k,none⟩) hjl (fun (e:col A.jb = 2 ∨ col A.jb = 10 + i)=>by have:=cc.jb;rcases e with e | e <;> omega)).trans (h.jb.row k hk)
  show _ = some (jptr (upd s.job i none k) (jbk k))
  by_cases hki:k = i
  ·subst hki
   rw [upd_self]
   exact World.cell?_setCell_same _ _ _ hr3
  ·rw [upd_ne _ _ hki,World.cell?_setCell_other _ _ _ _ (addr_ne (Ne.symm hki))]
   exact hr3
 ·rw [World.frozen?_setCell]
  have hz3:w3.frozen? ⟨A.jb,o,none⟩ = w.frozen? ⟨A.jb,o,none⟩:=by
   have e1:=f3.frozen (p:=⟨A.jb,o,none⟩) (Nat.lt_of_lt_of_le hjl f2.size) (fun e=>by
    rcases e with e | e | e
    ·exact col_ne cc.jb (cc.sk i hi).1 (by omega) e
    ·exact col_ne cc.jb (cc.sk i hi).2.2.1 (by omega) e
    ·exact col_ne cc.jb (cc.sk i hi).2.2.2 (by omega) e)
   exact e1.trans (f2.frozen (p:=⟨A.jb,o,none⟩) hjl (fun (e:F A.jb)=>by have:=cc.hp _ e;have:=cc.jb;omega))
  rw [hz3];exact h.jb.z o
 ·have e':upd s.job i none k = some J:=e
  by_cases hki:k = i
  ·subst hki;rw [upd_self] at e';cases e'
  ·rw [upd_ne _ _ hki] at e'
   have hc:=cc.j k J hk e'
   exact rg_fr hT (lt hc (by omega)) (ne hc (by omega) (by omega) (by omega)) (h.jb.rg k J hk e')
 ·have e':upd s.job i none k = some J:=e
  by_cases hki:k = i
  ·subst hki;rw [upd_self] at e';cases e'
  ·rw [upd_ne _ _ hki] at e'
   have hc:=cc.j k J hk e'
   exact th_fr (h.jb.th k J hk e') hT (lt hc (by omega)) (ne hc (by omega) (by omega) (by omega))
 ·exact (hT.cell (p:=⟨A.sb,k,none⟩) (lt cc.sb (by omega)) (ne cc.sb (by omega) (by omega) (by omega))).trans (h.sk.row k hk)
 ·show ∃ f j cf,_ ∧ _ = upd s.win i (pushW (s.win i) met) k ∧ _
  by_cases hki:k = i
  ·subst hki
   obtain ⟨f,j,cf,a,b,c⟩:=hs3
   refine ⟨f,j,cf,a.keep f4 ?_ ?_ ?_ ?_,by rw [upd_self];exact b,c⟩
   ·exact col_ne (cc.sk k hk).1 cc.jb (by omega)
   ·exact col_ne (cc.sk k hk).2.1 cc.jb (by omega)
   ·exact col_ne (cc.sk k hk).2.2.1 cc.jb (by omega)
   ·exact col_ne (cc.sk k hk).2.2.2 cc.jb (by omega)
  ·obtain ⟨f,j,cf,a,b,c⟩:=h.sk.sk k hk
   exact ⟨f,j,cf,a.keep hT (ne (cc.sk k hk).1 (by omega) (by omega) (by omega)) (ne (cc.sk k hk).2.1 (by omega) (by omega) (by omega)) (ne (cc.sk k hk).2.2.1 (by omega) (by omega) (by omega)) (ne (cc.sk k hk).2.2.2 (by omega) (by omega) (by omega)),by rw [upd_ne _ _ hki];exact b,by omega⟩
 ·have:=cc.hp k hk
  rcases e with (e | e | e) | e
  ·exact col_ne this (cc.sk i hi).1 (by omega) e
  ·exact col_ne this (cc.sk i hi).2.2.1 (by omega) e
  ·exact col_ne this (cc.sk i hi).2.2.2 (by omega) e
  ·exact col_ne this cc.jb (by omega) e
 ·obtain ⟨f,m,ef,tf,a⟩:=h.t
  exact ⟨f,m,ef,tf,a.keep hT (ne cc.t.1 (by omega) (by omega) (by omega)) (ne cc.t.2.1 (by omega) (by omega) (by omega)) (ne cc.t.2.2 (by omega) (by omega) (by omega))⟩
 ·have e':upd s.job i none k = some J:=e
  by_cases hki:k = i
  ·subst hki;rw [upd_self] at e';cases e'
  ·rw [upd_ne _ _ hki] at e';exact cc.j k J hk e'
 ·rw [List.mem_filter,h.hk]
  constructor
  ·rintro ⟨⟨k,J,hk,e,rfl⟩,hne⟩
   have hki:k ≠ i:=fun e=>by subst e;simp [keyJ] at hne
   exact ⟨k,J,hk,by show upd kj i none k = some J;rw [upd_ne _ _ hki];exact e,rfl⟩
  ·rintro ⟨k,J,hk,e,rfl⟩
   have e':upd kj i none k = some J:=e
   by_cases hki:k = i
   ·subst hki;rw [upd_self] at e';cases e'
   ·rw [upd_ne _ _ hki] at e'
    exact ⟨⟨k,J,hk,e',rfl⟩,by simp [keyJ];omega⟩
 ·have e':upd kj i none k = some J:=e
  by_cases hki:k = i
  ·subst hki;rw [upd_self] at e';cases e'
  ·rw [upd_ne _ _ hki] at e';obtain ⟨a1,a2,a3,a4,a5⟩:=h.jk k J hk e';exact ⟨a1,a2,by omega,a4,a5⟩
theorem gone_two (h:XW B A bu n tk w s out Mx col F hm so jbk gs kj) {i:Nat} (hi:i < n) {w2:World} {met:Bool} (f2:Fr F w w2) :
  w2.cell? ⟨A.x,7,none⟩ = some (.slice (some ⟨A.sb,0,none⟩) n A.sc) ∧ w2.cell? ⟨A.sb,i,none⟩ = some (.pointer (some ⟨A.sk i,0,none⟩)) ∧
  Hid (Calls Tryz.prog 95 #[.pointer (some ⟨A.sk i,0,none⟩),.bool met] w2 fun e w3=>e = .returned (.tuple #[]) ∧ (∃ f j cf,SKp w3 (A.sk i) (A.sz i) (A.sp i) (A.sq i) (tk i).K.toNat f (tk i).M.toNat j cf ∧ ringL (tk i).K.toNat f (tk i).K.toNat cf = pushW (s.win i) met ∧ j ≤ Mx + 1) ∧ Fr (fun k=>k = A.sk i ∨ k = A.sp i ∨ k = A.sq i) w2 w3) ∧
  w2.cell? ⟨A.x,3,none⟩ = some (.slice (some ⟨A.jb,0,none⟩) n A.jc) ∧ w2.frozen? ⟨A.jb,i,none⟩ = false ∧ ∃ v,w2.cell? ⟨A.jb,i,none⟩ = some v:=by
 have cc:=h.c
 have hx:=cc.xlt (s:=s)
 have hsb:A.sb < w.heap.size:=(cc.lt _ (by rw [cc.sb];omega)).2
 have hjb:A.jb < w.heap.size:=(cc.lt _ (by rw [cc.jb];omega)).2
 have nF:∀ {k c:Nat},col k = c → c ≠ 2 → ¬ F k:=fun e hc t=>hc (by rw [← e];exact cc.hp _ t)
 refine ⟨(f2.cell (p:=⟨A.x,7,none⟩) hx (nF cc.x (by omega))).trans h.f.f7,(f2.cell (p:=⟨A.sb,i,none⟩) hsb (nF cc.sb (by omega))).trans (h.sk.row i hi),?_,
  (f2.cell (p:=⟨A.x,3,none⟩) hx (nF cc.x (by omega))).trans h.f.f3,(f2.frozen (p:=⟨A.jb,i,none⟩) hjb (nF cc.jb (by omega))).trans (h.jb.z i),_,(f2.cell (p:=⟨A.jb,i,none⟩) hjb (nF cc.jb (by omega))).trans (h.jb.row i hi)⟩
 obtain ⟨f,j,cf,a,b,c⟩:=h.sk.sk i hi
 have a2:=a.keep f2 (nF (cc.sk i hi).1 (by omega)) (nF (cc.sk i hi).2.1 (by omega)) (nF (cc.sk i hi).2.2.1 (by omega)) (nF (cc.sk i hi).2.2.2 (by omega))
 have hm:=h.mx
 refine (spush_is a2 (by omega) met rfl).mono ?_
 rintro e w3 ⟨rfl,h3,f3⟩
 exact ⟨rfl,⟨_,_,_,h3,by rw [ringL_push cf met a.wn.rb.fk,b],by omega⟩,f3⟩
theorem gone_three (h:XW B A bu n tk w s out Mx col F hm so jbk gs kj) {i:Nat} (hi:i < n) {w2 w3:World} (f3:w2.cell? ⟨A.x,3,none⟩ = some (.slice (some ⟨A.jb,0,none⟩) n A.jc)) (z3:w2.frozen? ⟨A.jb,i,none⟩ = false) (jl:∃ v,w2.cell? ⟨A.jb,i,none⟩ = some v)
  (fr3:Fr (fun k=>k = A.sk i ∨ k = A.sp i ∨ k = A.sq i) w2 w3):w3.cell? ⟨A.x,3,none⟩ = some (.slice (some ⟨A.jb,0,none⟩) n A.jc) ∧ w3.frozen? ⟨A.jb,i,none⟩ = false ∧ ∃ v,w3.cell? ⟨A.jb,i,none⟩ = some v:=by
 have cc:=h.c
 have ne:∀ {k c:Nat},col k = c → c ≠ 10 + i → ¬ (k = A.sk i ∨ k = A.sp i ∨ k = A.sq i):=fun e hc t=>by
  rcases t with t | t | t
  ·exact col_ne e (cc.sk i hi).1 hc t
  ·exact col_ne e (cc.sk i hi).2.2.1 hc t
  ·exact col_ne e (cc.sk i hi).2.2.2 hc t
 obtain ⟨v,hv⟩:=jl
 have hjb:=block_lt hv
 exact ⟨(fr3.cell (p:=⟨A.x,3,none⟩) (block_lt f3) (ne cc.x (by omega))).trans f3,(fr3.frozen (p:=⟨A.jb,i,none⟩) hjb (ne cc.jb (by omega))).trans z3,v,(fr3.cell (p:=⟨A.jb,i,none⟩) hjb (ne cc.jb (by omega))).trans hv⟩
theorem gone_is (h:XW B A bu n tk w s out Mx col F hm so jbk gs kj) (a i:Nat) (J:Jb) (met:Bool) (h1:1 ≤ a) (h2:a < 12) (hi:i < n) (hJ:s.job i = some J) (ho:out.length ≤ 100000000) (hMx:Mx < 1000000) :
  Calls Tryz.prog 60 #[.pointer (some ⟨A.x,0,none⟩),.int .i64 a,.int .i64 i,.bool met] w fun e w'=>e = .returned (.tuple #[]) ∧
   ∃ col' so',XW B A bu n tk w' (gone s i met) (out ++ [tell tk s a i J]) (Mx + 1) col' F (hm.filter fun x=>!(x.2.2.2 == (i:Int))) so' jbk gs (upd kj i none) ∧ XR col w col' w':=by
 have hn16:=h.c.n16
 have hi0:(0:Int) ≤ (i:Int):=by omega
 have hiI:(i:Int) < (n:Int):=by omega
 have HT:=Lib.hid (tell_is h a i J h1 h2 hi hJ ho)
 clear h
 go_enter Tryz.func60,Tryz.ntmps60
 go_wp2_with (first
  |(go_at_call 69;refine HT.out.mono ?_;rintro e w1 ⟨rfl,col1,so1,H1,R1⟩;have f5:=H1.f.f5;have HH1:=Lib.hid H1;clear HT H1)
  |(go_at_call 94;refine Calls.mono (remove_m HH1.out.hp (i:Int)) ?_;rintro e w2 ⟨rfl,hp2,fr2⟩;obtain ⟨f7,q7,SK2,f3,z3,jl⟩:=gone_two (met:=met) HH1.out hi fr2;have HP2:=Lib.hid hp2;have FR2:=Lib.hid fr2;clear hp2 fr2 f5)
  |(go_at_call 95;refine SK2.out.mono ?_;rintro e w3 ⟨rfl,SK3,fr3⟩;obtain ⟨g3,y3,v3,zz3⟩:=gone_three HH1.out hi f3 z3 jl fr3;have FR3:=Lib.hid fr3;have HS3:=Lib.hid SK3;clear fr3 SK3 SK2 f7 q7 f3 z3))
 go_end0
 obtain ⟨HX,RX⟩:=HH1.out.gone1 hi met hMx HP2.out FR2.out HS3.out FR3.out
 exact ⟨rfl,col1,so1,HX,R1.trans RX⟩
end
end
section
open Go.RowKit
section
variable {B n:Nat} {A:XFix} {bu:Int} {tk:Nat → Tk} {w w':World} {s:St} {out:List Ev} {Mx:Nat} {col:Nat → Nat} {F:Nat → Prop} {hm:List Q} {so:Value} {jbk:Nat → Nat} {gs:List Gate} {kj:Nat → Option Jb} {T:Nat → Prop}
theorem lateTo_now (tk:Nat → Tk) (s:St) (k:Nat):(lateTo tk s k).1.now = s.now:=(late_to (tk:=tk) s k).1.now
theorem lateTo_at (tk:Nat → Tk) (s:St) (k:Nat):(lateTo tk s k).1.job k = s.job k:=(late_to (tk:=tk) s k).2 k (Nat.le_refl _)
theorem lateTo_none {tk:Nat → Tk} {s:St} {k:Nat} (h:s.job k = none):lateTo tk s (k + 1) = lateTo tk s k:=by
 rw [lateTo,lateTo_at,h]
theorem lateTo_late {tk:Nat → Tk} {s:St} {k:Nat} {J:Jb} (h:s.job k = some J) (hl:(J.rel:Int) + (tk k).D ≤ s.now):lateTo tk s (k + 1) = (gone (lateTo tk s k).1 k false,(lateTo tk s k).2 ++ [tell tk (lateTo tk s k).1 9 k J]):=by
 rw [lateTo,lateTo_at,h]
 simp only
 rw [if_pos hl]
theorem lateTo_not {tk:Nat → Tk} {s:St} {k:Nat} {J:Jb} (h:s.job k = some J) (hl:¬ (J.rel:Int) + (tk k).D ≤ s.now):lateTo tk s (k + 1) = lateTo tk s k:=by
 rw [lateTo,lateTo_at,h]
 simp only
 rw [if_neg hl]
theorem XW.mxle {M2:Nat} (h:XW B A bu n tk w s out Mx col F hm so jbk gs kj) (h1:Mx ≤ M2) (h2:M2 ≤ 1000000):XW B A bu n tk w s out M2 col F hm so jbk gs kj :=
 ⟨h.f,h.tsk,h.jb,⟨h.sk.row,fun i hi=>by obtain ⟨f,j,cf,a,b,c⟩:=h.sk.sk i hi;exact ⟨f,j,cf,a,b,by omega⟩⟩,h.hp,h.g.more h1,h.t,h.o,h.c,h.gl,h.ga,h.hk,h.ok,fun i J hi e=>by obtain ⟨a1,a2,a3,a4,a5⟩:=h.jk i J hi e;exact ⟨a1,a2,by omega,a4,a5⟩,h.no,h2⟩
theorem lateTo_len2 (tk:Nat → Tk) (s:St) (k:Nat):(lateTo tk s k).2.length ≤ k:=lateTo_len s k
theorem late_is (h:XW B A bu n tk w s out Mx col F hm so jbk gs s.job) (ho:out.length ≤ 10000000) (hMx:Mx + n < 1000000) :
  Calls Tryz.prog 39 #[.pointer (some ⟨A.x,0,none⟩)] w fun e w'=>e = .returned (.tuple #[]) ∧
   ∃ col' so' hm',XW B A bu n tk w' (lateTo tk s n).1 (out ++ (lateTo tk s n).2) (Mx + n) col' F hm' so' jbk gs (lateTo tk s n).1.job ∧ XR col w col' w':=by
 have hn16:=h.c.n16
 have f3:=h.f.f3
 have H:=Lib.hid h
 clear h
 go_enter Tryz.func39,Tryz.ntmps39
 go_wp2_with fail
 go_loopw [9,2,3] (fun ix s2 s3 wx=>∃ k:Nat,k ≤ n ∧ ix = .int .i64 k ∧ Hid (∃ col' so' hm',XW B A bu n tk wx (lateTo tk s k).1 (out ++ (lateTo tk s k).2) (Mx + k) col' F hm' so' jbk gs (lateTo tk s k).1.job ∧ XR col w col' wx)) (fun ix _ _ _=>n - (intOf ix).toNat)
 case atStart=>exact ⟨0,Nat.zero_le _,rfl,⟨col,so,hm,by simpa [lateTo] using H.out,XR.refl _ _⟩⟩
 case round =>
  obtain ⟨k,hk,rfl,HX⟩:=hrel
  by_cases hlt:k < n
  ·have hkI:(k:Int) < (n:Int):=by omega
   have hk0:(0:Int) ≤ (k:Int):=by omega
   have hdl:decide ((k:Int) < (n:Int)) = true:=decide_eq_true hkI
   obtain ⟨col1,so1,hm1,H1,R1⟩:=HX.out
   have hr:=H1.jb.row k hlt
   rw [lateTo_at] at hr
   have HH1:=Lib.hid H1
   have RR1:=Lib.hid R1
   clear H1 R1 HX
   cases hJ:s.job k with
   | none =>
    rw [hJ] at hr
    have hr':wr.cell? ⟨A.jb,k,none⟩ = some (.pointer none):=hr
    have HJ:=Lib.hid hJ
    clear hr hJ
    go_wp2_with fail
    have HD1:=HH1.out.keep (T:=fun _=>False) ((Fr.refl _ wr).drew) (fun _ h=>h.elim)
    refine wp_region_held_drew (S:=(fun w'=>w' = wr.drew)) (by kernel_rfl) ?hS0n (fun hHeld=>?_)
    case hS0n=>(try dsimp only);done
    refine wtk (i:=0) ?_
    try simp only [Act.put,List.setIfInBounds_toArray,List.set]
    refine wtk (i:=1) ?_
    try simp only [Act.put,List.setIfInBounds_toArray,List.set]
    refine wtk (i:=2) ?_
    try simp only [Act.put,List.setIfInBounds_toArray,List.set]
    refine wun (i:=3) ?_
    try simp only [Act.put,List.setIfInBounds_toArray,List.set]
    refine wun (i:=4) ?_
    try simp only [Act.put,List.setIfInBounds_toArray,List.set]
    refine wun (i:=5) ?_
    try simp only [Act.put,List.setIfInBounds_toArray,List.set]
    refine wun (i:=6) ?_
    try simp only [Act.put,List.setIfInBounds_toArray,List.set]
    refine wun (i:=7) ?_
    try simp only [Act.put,List.setIfInBounds_toArray,List.set]
    refine wun (i:=8) ?_
    try simp only [Act.put,List.setIfInBounds_toArray,List.set]
    refine wun (i:=9) ?_
    try simp only [Act.put,List.setIfInBounds_toArray,List.set]
    refine wun (i:=10) ?_
    try simp only [Act.put,List.setIfInBounds_toArray,List.set]
    refine wtk (i:=11) ?_
    try simp only [Act.put,List.setIfInBounds_toArray,List.set]
    refine wpAnyH_done (by kernel_rfl) ?_ _
    have HR:Hid (∃ col' so' hm',XW B A bu n tk wr.drew (lateTo tk s (k + 1)).1 (out ++ (lateTo tk s (k + 1)).2) (Mx + (k + 1)) col' F hm' so' jbk gs (lateTo tk s (k + 1)).1.job ∧ XR col w col' wr.drew):=by
     rw [lateTo_none HJ.out]
     exact ⟨col1,so1,hm1,HD1.mxle (by omega) (by omega),RR1.out.trans (XR.of_fr (T:=fun _=>False) ((Fr.refl _ wr).drew) (fun _ h=>h.elim))⟩
    clear HD1
    go_wp2_with fail
    go_roundw
    case rel=>exact ⟨k + 1,by omega,by simp,HR⟩
    case measure=>simp [intOf];omega
   | some J =>
    rw [hJ] at hr
    have hr':wr.cell? ⟨A.jb,k,none⟩ = some (.pointer (some ⟨jbk k,0,none⟩)):=hr
    have HJ:=Lib.hid hJ
    clear hr hJ
    go_wp2_with fail
    have HD1:=HH1.out.keep (T:=fun _=>False) ((Fr.refl _ wr).drew) (fun _ h=>h.elim)
    have HF:Hid (∀ (W:World),XW B A bu n tk W (lateTo tk s k).1 (out ++ (lateTo tk s k).2) (Mx + k) col1 F hm1 so1 jbk gs (lateTo tk s k).1.job → W.rangeAt (jbk k) 0 (jbc k (tk k) J) ∧ W.cell? ⟨A.x,2,none⟩ = some (.int .i64 s.now)):=fun W h =>
     ⟨h.jb.rg k J hlt (by rw [lateTo_at];exact HJ.out),by have:=h.f.f2;rw [lateTo_now] at this;exact this⟩
    have HL:=Lib.hid fun W=>late_any (k:Int) (tk k) J s.now W
    unfold jbv at HL
    refine wp_region_held_drew (S:=(fun w'=>w'.rangeAt (jbk k) 0 (jbc k (tk k) J) ∧ w'.cell? ⟨A.x,2,none⟩ = some (.int .i64 s.now))) (by kernel_rfl) ?hS0s (fun hHeld=>?_)
    case hS0s=>(try dsimp only);exact HF.out _ HD1
    refine wtk (i:=0) ?_
    try simp only [Act.put,List.setIfInBounds_toArray,List.set]
    refine wtk (i:=1) ?_
    try simp only [Act.put,List.setIfInBounds_toArray,List.set]
    refine wtk (i:=2) ?_
    try simp only [Act.put,List.setIfInBounds_toArray,List.set]
    refine wtk (i:=3) ?_
    try simp only [Act.put,List.setIfInBounds_toArray,List.set]
    refine wtk (i:=4) ?_
    try simp only [Act.put,List.setIfInBounds_toArray,List.set]
    refine wpAnyH_take (i := 5) (oi := { dst := some 19, op := Op.load 59 (Operand.tmp 18), type := 59, pos := "exec.go:117", after := #[{ on := 4, ground := Ground.data }, { on := 2, ground := Ground.guard }], guard := some (2, true) }) rfl (by kernel_rfl) (by kernel_rfl) (by kernel_rfl) (fun _ _ _ h => h) (yieldsIf_load_mid (by rfl) 59 _ rfl (jbk k) 0 rfl (jbc k (tk k) J) _ ?hSs6 Tryz.underlying59 rfl Tryz.size59) (by assumption) ?_
    case hSs6=>(intro wS hSw;(try dsimp only at hSw);exact hSw.1)
    try simp only [Act.put,List.setIfInBounds_toArray,List.set]
    refine wtk (i:=6) ?_
    try simp only [Act.put,List.setIfInBounds_toArray,List.set]
    refine wtk (i:=7) ?_
    try simp only [Act.put,List.setIfInBounds_toArray,List.set]
    refine wtk (i:=8) ?_
    try simp only [Act.put,List.setIfInBounds_toArray,List.set]
    refine wtk (i:=9) ?_
    try simp only [Act.put,List.setIfInBounds_toArray,List.set]
    refine wpAnyH_ready (rs:=[10]) (by kernel_rfl) (by simp) ?_
    refine arc (fun K hK=>?_) AllReadyH.nil
    unfold jbc
    go_simp;go_at_call 59;refine Calls.mono (HL.out _) ?_;rintro e w5 ⟨rfl,hb5⟩;have HW5:=HD1.below hb5;have HR5:=RR1.out.trans ((XR.of_fr (T:=fun _=>False) ((Fr.refl _ wr).drew) (fun _ h=>h.elim)).trans (XR.of_below hb5))
    refine hK.out _ _ ?hSs11 (fun hHeld2=>?hrs11)
    case hSs11=>(try dsimp only);exact HF.out _ HW5
    clear hK K hHeld
    have hHeld:=hHeld2
    clear hHeld2
    try simp only [Act.put,List.setIfInBounds_toArray,List.set]
    refine wtk (i:=11) ?_
    try simp only [Act.put,List.setIfInBounds_toArray,List.set]
    refine wpAnyH_done (by kernel_rfl) ?_ _
    have HW5':=Lib.hid HW5
    have HR5':=Lib.hid HR5
    clear HD1 HW5 HR5 HF HL hHeld hb5
    by_cases hL:(J.rel:Int) + (tk k).D ≤ s.now
    ·have hLd:decide ((J.rel:Int) + (tk k).D ≤ (s.now:Int)) = true:=decide_eq_true hL
     have HLd:=Lib.hid hL
     have HG:=Lib.hid (gone_is HW5'.out 9 k J false (by omega) (by omega) hlt (by rw [lateTo_at];exact HJ.out) (by have:=lateTo_len2 tk s k;simp only [List.length_append];omega) (by omega))
     go_wp2_with (go_at_call 60;refine HG.out.mono ?_;rintro e w6 ⟨rfl,col6,so6,H6,R6⟩)
     have HR:Hid (∃ col' so' hm',XW B A bu n tk w6 (lateTo tk s (k + 1)).1 (out ++ (lateTo tk s (k + 1)).2) (Mx + (k + 1)) col' F hm' so' jbk gs (lateTo tk s (k + 1)).1.job ∧ XR col w col' w6):=by
      rw [lateTo_late HJ.out HLd.out,← List.append_assoc]
      exact ⟨col6,so6,_,H6,HR5'.out.trans R6⟩
     clear H6 R6 HG
     go_wp2_with fail
     go_roundw
     case rel=>exact ⟨k + 1,by omega,by simp,HR⟩
     case measure=>simp [intOf];omega
    ·have hLd:decide ((J.rel:Int) + (tk k).D ≤ (s.now:Int)) = false:=decide_eq_false hL
     have HR:Hid (∃ col' so' hm',XW B A bu n tk w5 (lateTo tk s (k + 1)).1 (out ++ (lateTo tk s (k + 1)).2) (Mx + (k + 1)) col' F hm' so' jbk gs (lateTo tk s (k + 1)).1.job ∧ XR col w col' w5):=by
      rw [lateTo_not HJ.out hL]
      exact ⟨col1,so1,hm1,HW5'.out.mxle (by omega) (by omega),HR5'.out⟩
     go_wp2_with fail
     go_roundw
     case rel=>exact ⟨k + 1,by omega,by simp,HR⟩
     case measure=>simp [intOf];omega
  ·have hkn:k = n:=by omega
   subst hkn
   have hdl:decide ((k:Int) < (k:Int)) = false:=decide_eq_false (by omega)
   go_wp2_with fail
   go_end0
   obtain ⟨c1,s1,m1,a1,b1⟩:=HX.out
   exact ⟨rfl,c1,s1,m1,a1,b1⟩
end
end
end Go.Proofs.YtnoahekcemfmcaaGreatDoor
