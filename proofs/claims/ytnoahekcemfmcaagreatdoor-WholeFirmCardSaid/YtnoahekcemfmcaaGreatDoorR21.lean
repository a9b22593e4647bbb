/- A part of the walk: Xa Xb. -/
import Derived.Test.YtnoahekcemfmcaaGreatDoorR08
import Derived.Test.YtnoahekcemfmcaaGreatDoorR14
import Derived.Test.YtnoahekcemfmcaaGreatDoorR16
import Derived.Test.YtnoahekcemfmcaaGreatDoorR19
import Derived.Test.YtnoahekcemfmcaaGreatDoorR20
namespace Go.Proofs.YtnoahekcemfmcaaGreatDoor
set_option linter.unusedVariables false
set_option linter.unusedSimpArgs false
set_option maxHeartbeats 80000000
set_option maxRecDepth 100000
section
open Go.RowKit
structure XFix where
 x:Nat
 tb:Nat
 tc:Nat
 jb:Nat
 jc:Nat
 sb:Nat
 sc:Nat
 ph:Nat
 gp:Nat
 gq:Nat
 gc:Nat
 ty:Nat
 tp:Nat
 tq:Nat
 sk:Nat → Nat
 sz:Nat → Nat
 sp:Nat → Nat
 sq:Nat → Nat
def evc (e:Ev):List Value:=[.int .i64 e.at_,.int .i64 e.what,.int .i64 e.task,.int .i64 e.job,.int .i64 e.band]
def jbc (i:Int) (t:Tk) (j:Jb):List Value:=[.int .i64 i,.int .i64 j.no,.int .i64 j.rel,.int .i64 (j.rel + t.D),.bool j.must,.bool j.over,.bool j.begun,.string t.nm,.int .i64 t.T,.int .i64 t.D,.int .i64 t.C,.int .i64 t.A,.int .i64 t.Seg,.int .i64 t.Cost,.int .i64 t.M,.int .i64 t.K,.int .i64 t.Mode,.int .i64 t.Prio,.int .i64 j.dem,.int .i64 j.part,.int .i64 j.left,.bool j.struck,.int .i64 j.fails]
theorem jbv_eq (i:Int) (t:Tk) (j:Jb):jbv i t j = .agg (jbc i t j).toArray:=rfl
def jptr (o:Option Jb) (b:Nat):Value:=match o with | none=>.pointer none | some _=>.pointer (some ⟨b,0,none⟩)
structure X1 (w:World) (A:XFix) (bu:Int) (n:Nat) (now:Nat) (last:Int) (so:Value):Prop where
 f0:w.cell? ⟨A.x,0,none⟩ = some (.int .i64 bu)
 f1:w.cell? ⟨A.x,1,none⟩ = some (.slice (some ⟨A.tb,0,none⟩) n A.tc)
 f2:w.cell? ⟨A.x,2,none⟩ = some (.int .i64 now)
 f3:w.cell? ⟨A.x,3,none⟩ = some (.slice (some ⟨A.jb,0,none⟩) n A.jc)
 f4:w.cell? ⟨A.x,4,none⟩ = some (.int .i64 last)
 f5:w.cell? ⟨A.x,5,none⟩ = some (.pointer (some ⟨A.ph,0,none⟩))
 f6:w.cell? ⟨A.x,6,none⟩ = some (.pointer (some ⟨A.gp,0,none⟩))
 f7:w.cell? ⟨A.x,7,none⟩ = some (.slice (some ⟨A.sb,0,none⟩) n A.sc)
 f8:w.cell? ⟨A.x,8,none⟩ = some (.pointer (some ⟨A.ty,0,none⟩))
 f9:w.cell? ⟨A.x,9,none⟩ = some so
 fz:∀ o,w.frozen? ⟨A.x,o,none⟩ = false
structure XJ (w:World) (A:XFix) (n:Nat) (tk:Nat → Tk) (job:Nat → Option Jb) (jbk:Nat → Nat):Prop where
 row:∀ i,i < n → w.cell? ⟨A.jb,i,none⟩ = some (jptr (job i) (jbk i))
 z:∀ o,w.frozen? ⟨A.jb,o,none⟩ = false
 rg:∀ i J,i < n → job i = some J → w.rangeAt (jbk i) 0 (jbc i (tk i) J)
 th:∀ i J,i < n → job i = some J → w.there (jbk i) 0 23
structure XS (w:World) (A:XFix) (n:Nat) (tk:Nat → Tk) (win:Nat → List Bool) (Mx:Nat):Prop where
 row:∀ i,i < n → w.cell? ⟨A.sb,i,none⟩ = some (.pointer (some ⟨A.sk i,0,none⟩))
 sk:∀ i,i < n → ∃ f j cf,SKp w (A.sk i) (A.sz i) (A.sp i) (A.sq i) (tk i).K.toNat f (tk i).M.toNat j cf ∧ ringL (tk i).K.toNat f (tk i).K.toNat cf = win i ∧ j ≤ Mx
structure XC (B:Nat) (w:World) (A:XFix) (n:Nat) (col:Nat → Nat) (F:Nat → Prop) (so:Value) (job:Nat → Option Jb) (jbk:Nat → Nat):Prop where
 x:col A.x = 1
 tb:col A.tb = 7
 jb:col A.jb = 5
 sb:col A.sb = 8
 sk:∀ i,i < n → col (A.sk i) = 10 + i ∧ col (A.sz i) = 10 + i ∧ col (A.sp i) = 10 + i ∧ col (A.sq i) = 10 + i
 hp:∀ k,F k → col k = 2
 g:col A.gp = 3 ∧ col A.gq = 3
 t:col A.ty = 4 ∧ col A.tp = 4 ∧ col A.tq = 4
 o:∀ k,so.ownBlock = some k → col k = 6
 j:∀ i J,i < n → job i = some J → col (jbk i) = 100 + i
 lt:∀ k,col k ≠ 0 → B ≤ k ∧ k < w.heap.size
 n16:n ≤ 16
def keyJ (tk:Nat → Tk) (i:Nat) (J:Jb):Q:=(bandJ (tk i) J,(tk i).Prio,(J.rel:Int),(i:Int))
structure XW (B:Nat) (A:XFix) (bu:Int) (n:Nat) (tk:Nat → Tk) (w:World) (s:St) (out:List Ev) (Mx:Nat) (col:Nat → Nat) (F:Nat → Prop) (hm:List Q) (so:Value) (jbk:Nat → Nat) (gs:List Gate) (kj:Nat → Option Jb):Prop where
 f:X1 w A bu n s.now s.last so
 tsk:∀ j,j < n → w.rangeAt A.tb (j * 11) (tkc (tk j))
 jb:XJ w A n tk s.job jbk
 sk:XS w A n tk s.win Mx
 hp:HH B w A.ph F n hm
 g:GuardAt w A.gp A.gq A.gc Mx gs
 t:∃ f m ef tf,TA w A.ty A.tp A.tq 64 f m ef tf
 o:w.ownsRow B 44 5 so out.length (out.flatMap evc)
 c:XC B w A n col F so s.job jbk
 gl:gs.length = n
 ga:∀ i (h:i < gs.length),gs[i].apart = (tk i).T ∧ gs[i].opn = s.opn i ∧ gs[i].count = s.cnt i
 hk:∀ q:Q,q ∈ hm ↔ ∃ i J,i < n ∧ kj i = some J ∧ q = keyJ tk i J
 ok:∀ i,i < n → (tk i).Ok
 jk:∀ i J,i < n → kj i = some J → JbOk (tk i) J ∧ 0 ≤ J.fails ∧ J.fails ≤ Mx ∧ J.left ≤ 2147483648 ∧ J.rel ≤ s.now
 no:s.now ≤ 1099511627776
 mx:Mx ≤ 1000000
section
variable {B n:Nat} {A:XFix} {bu:Int} {tk:Nat → Tk} {w w':World} {s:St} {out:List Ev} {Mx:Nat} {col:Nat → Nat} {F:Nat → Prop} {hm:List Q} {so:Value} {jbk:Nat → Nat} {gs:List Gate} {kj:Nat → Option Jb} {T:Nat → Prop}
theorem XC.xlt (h:XC B w A n col F so s.job jbk):A.x < w.heap.size:=(h.lt _ (by rw [h.x];omega)).2
theorem X1.keep {now:Nat} {last:Int} (h:X1 w A bu n now last so) (hf:Fr T w w') (hT:¬ T A.x):X1 w' A bu n now last so:=by
 have hx:A.x < w.heap.size:=block_lt h.f0
 exact ⟨(hf.cell (p:=⟨A.x,0,none⟩) hx hT).trans h.f0,(hf.cell (p:=⟨A.x,1,none⟩) hx hT).trans h.f1,(hf.cell (p:=⟨A.x,2,none⟩) hx hT).trans h.f2,(hf.cell (p:=⟨A.x,3,none⟩) hx hT).trans h.f3,(hf.cell (p:=⟨A.x,4,none⟩) hx hT).trans h.f4,
  (hf.cell (p:=⟨A.x,5,none⟩) hx hT).trans h.f5,(hf.cell (p:=⟨A.x,6,none⟩) hx hT).trans h.f6,(hf.cell (p:=⟨A.x,7,none⟩) hx hT).trans h.f7,(hf.cell (p:=⟨A.x,8,none⟩) hx hT).trans h.f8,(hf.cell (p:=⟨A.x,9,none⟩) hx hT).trans h.f9,fun o=>(hf.frozen (p:=⟨A.x,o,none⟩) hx hT).trans (h.fz o)⟩
theorem XJ.keep {job:Nat → Option Jb} (h:XJ w A n tk job jbk) (hf:Fr T w w') (h1:A.jb < w.heap.size) (h2:¬ T A.jb) (h3:∀ i J,i < n → job i = some J → jbk i < w.heap.size ∧ ¬ T (jbk i)):XJ w' A n tk job jbk :=
 ⟨fun i hi=>(hf.cell (p:=⟨A.jb,i,none⟩) h1 h2).trans (h.row i hi),fun o=>(hf.frozen (p:=⟨A.jb,o,none⟩) h1 h2).trans (h.z o),
  fun i J hi e=>rg_fr hf (h3 i J hi e).1 (h3 i J hi e).2 (h.rg i J hi e),fun i J hi e=>th_fr (h.th i J hi e) hf (h3 i J hi e).1 (h3 i J hi e).2⟩
theorem XS.keep {win:Nat → List Bool} (h:XS w A n tk win Mx) (hf:Fr T w w') (h1:A.sb < w.heap.size) (h2:¬ T A.sb) (h3:∀ i,i < n → ¬ T (A.sk i) ∧ ¬ T (A.sz i) ∧ ¬ T (A.sp i) ∧ ¬ T (A.sq i)):XS w' A n tk win Mx :=
 ⟨fun i hi=>(hf.cell (p:=⟨A.sb,i,none⟩) h1 h2).trans (h.row i hi),fun i hi=>by
  obtain ⟨f,j,cf,a,b,c⟩:=h.sk i hi
  obtain ⟨t1,t2,t3,t4⟩:=h3 i hi
  exact ⟨f,j,cf,a.keep hf t1 t2 t3 t4,b,c⟩⟩
theorem XW.keep (h:XW B A bu n tk w s out Mx col F hm so jbk gs kj) (hf:Fr T w w') (hT:∀ k,T k → col k = 0):XW B A bu n tk w' s out Mx col F hm so jbk gs kj:=by
 have ne:∀ {k c:Nat},col k = c → c ≠ 0 → ¬ T k:=fun e hc t=>hc (by rw [← e];exact hT _ t)
 have lt:∀ {k c:Nat},col k = c → c ≠ 0 → k < w.heap.size:=fun e hc=>(h.c.lt _ (by rw [e];exact hc)).2
 refine ⟨h.f.keep hf (ne h.c.x (by omega)),fun j hj=>rg_fr hf (lt h.c.tb (by omega)) (ne h.c.tb (by omega)) (h.tsk j hj),
  h.jb.keep hf (lt h.c.jb (by omega)) (ne h.c.jb (by omega)) (fun i J hi e=>⟨lt (h.c.j i J hi e) (by omega),ne (h.c.j i J hi e) (by omega)⟩),
  h.sk.keep hf (lt h.c.sb (by omega)) (ne h.c.sb (by omega)) (fun i hi=>⟨ne (h.c.sk i hi).1 (by omega),ne (h.c.sk i hi).2.1 (by omega),ne (h.c.sk i hi).2.2.1 (by omega),ne (h.c.sk i hi).2.2.2 (by omega)⟩),
  h.hp.keep hf (fun k hk=>ne (h.c.hp k hk) (by omega)),h.g.keep hf (ne h.c.g.1 (by omega)) (ne h.c.g.2 (by omega)),?_,
  ownsRow_keep h.o (fun k hk=>hf.block k (lt (h.c.o k hk) (by omega)) (ne (h.c.o k hk) (by omega))),{ h.c with lt:=fun k hk=>⟨(h.c.lt k hk).1,Nat.lt_of_lt_of_le (h.c.lt k hk).2 hf.size⟩ },h.gl,h.ga,h.hk,h.ok,h.jk,h.no,h.mx⟩
 obtain ⟨f,m,ef,tf,a⟩:=h.t
 exact ⟨f,m,ef,tf,a.keep hf (ne h.c.t.1 (by omega)) (ne h.c.t.2.1 (by omega)) (ne h.c.t.2.2 (by omega))⟩
theorem XW.below (h:XW B A bu n tk w s out Mx col F hm so jbk gs kj) (hb:Below w.heap.size w w'):XW B A bu n tk w' s out Mx col F hm so jbk gs kj :=
 h.keep (T:=fun _=>False) (Fr.of_below hb) (fun _ h=>h.elim)
end
end
section
open Go.RowKit
structure XR (col:Nat → Nat) (w:World) (col':Nat → Nat) (w':World):Prop where
 fr:Fr (fun k=>col k ≠ 0) w w'
 c0:∀ k,k < w.heap.size → col k = 0 → col' k = 0
theorem XR.refl (col:Nat → Nat) (w:World):XR col w col w:=⟨Fr.refl _ _,fun _ _ h=>h⟩
theorem XR.trans {c1 c2 c3:Nat → Nat} {w1 w2 w3:World} (h:XR c1 w1 c2 w2) (k:XR c2 w2 c3 w3):XR c1 w1 c3 w3 :=
 ⟨h.fr.trans k.fr (fun _ _ h=>h) (fun i hi e=>fun e'=>e (h.c0 i hi e')),fun i hi e=>k.c0 i (Nat.lt_of_lt_of_le hi h.fr.size) (h.c0 i hi e)⟩
theorem XR.of_fr {col:Nat → Nat} {w w':World} {T:Nat → Prop} (h:Fr T w w') (hT:∀ k,T k → col k ≠ 0):XR col w col w':=⟨h.mono fun i _ t=>hT i t,fun _ _ h=>h⟩
theorem XR.of_below {col:Nat → Nat} {w w':World} (h:Below w.heap.size w w'):XR col w col w':=⟨Fr.of_below h,fun _ _ h=>h⟩
section
variable {B n:Nat} {A:XFix} {bu:Int} {tk:Nat → Tk} {w w':World} {s:St} {out:List Ev} {Mx:Nat} {col:Nat → Nat} {F:Nat → Prop} {hm:List Q} {so:Value} {jbk:Nat → Nat} {gs:List Gate} {kj:Nat → Option Jb} {T:Nat → Prop}
theorem XW.trace (h:XW B A bu n tk w s out Mx col F hm so jbk gs kj) (hf:Fr (fun k=>k = A.ty ∨ k = A.tp ∨ k = A.tq) w w') (ht:∃ f m ef tf,TA w' A.ty A.tp A.tq 64 f m ef tf):XW B A bu n tk w' s out Mx col F hm so jbk gs kj:=by
 have h4:∀ k,(k = A.ty ∨ k = A.tp ∨ k = A.tq) → col k = 4:=fun k e=>by
  rcases e with rfl | rfl | rfl
  ·exact h.c.t.1
  ·exact h.c.t.2.1
  ·exact h.c.t.2.2
 have ne:∀ {k c:Nat},col k = c → c ≠ 4 → ¬ (k = A.ty ∨ k = A.tp ∨ k = A.tq):=fun e hc t=>hc (by rw [← e];exact h4 _ t)
 have lt:∀ {k c:Nat},col k = c → c ≠ 0 → k < w.heap.size:=fun e hc=>(h.c.lt _ (by rw [e];exact hc)).2
 have h16:=h.c.n16
 exact ⟨h.f.keep hf (ne h.c.x (by omega)),fun j hj=>rg_fr hf (lt h.c.tb (by omega)) (ne h.c.tb (by omega)) (h.tsk j hj),
  h.jb.keep hf (lt h.c.jb (by omega)) (ne h.c.jb (by omega)) (fun i J hi e=>⟨lt (h.c.j i J hi e) (by omega),ne (h.c.j i J hi e) (by omega)⟩),
  h.sk.keep hf (lt h.c.sb (by omega)) (ne h.c.sb (by omega)) (fun i hi=>⟨ne (h.c.sk i hi).1 (by omega),ne (h.c.sk i hi).2.1 (by omega),ne (h.c.sk i hi).2.2.1 (by omega),ne (h.c.sk i hi).2.2.2 (by omega)⟩),
  h.hp.keep hf (fun k hk=>ne (h.c.hp k hk) (by omega)),h.g.keep hf (ne h.c.g.1 (by omega)) (ne h.c.g.2 (by omega)),ht,
  ownsRow_keep h.o (fun k hk=>hf.block k (lt (h.c.o k hk) (by omega)) (ne (h.c.o k hk) (by omega))),{ h.c with lt:=fun k hk=>⟨(h.c.lt k hk).1,Nat.lt_of_lt_of_le (h.c.lt k hk).2 hf.size⟩ },h.gl,h.ga,h.hk,h.ok,h.jk,h.no,h.mx⟩
theorem XW.more (h:XW B A bu n tk w s out Mx col F hm so jbk gs kj) {w6:World} {gg c2:Nat} {e:Ev} (hf:Fr (fun k=>so.ownBlock = some k) w w6) (ho:w6.ownsRow B 44 5 (.slice (some ⟨gg,0,none⟩) (out.length + 1) c2) (out.length + 1) (out.flatMap evc ++ evc e))
  (hg:so.ownBlock = some gg ∨ w.heap.size ≤ gg) (hlt:gg < w6.heap.size) :
  ∃ col',XW B A bu n tk (w6.setCell ⟨A.x,9,none⟩ (.slice (some ⟨gg,0,none⟩) (out.length + 1) c2)) s (out ++ [e]) Mx col' F hm (.slice (some ⟨gg,0,none⟩) (out.length + 1) c2) jbk gs kj ∧ (∀ k,k ≠ gg → col' k = col k) ∧ (∀ k,k < w.heap.size → col k = 0 → col' k = 0):=by
 have h16:=h.c.n16
 have hxl:A.x < w.heap.size:=block_lt h.f.f0
 have hgx:gg ≠ A.x:=by
  rcases hg with hg | hg
  ·intro e;have h1:=h.c.o gg hg;rw [e,h.c.x] at h1;omega
  ·omega
 have hfull:Fr (fun k=>so.ownBlock = some k ∨ k = A.x) w (w6.setCell ⟨A.x,9,none⟩ (.slice (some ⟨gg,0,none⟩) (out.length + 1) c2)):=(hf.mono (T:=fun k=>so.ownBlock = some k ∨ k = A.x) (fun _ _ h=>.inl h)).setCell (p:=⟨A.x,9,none⟩) (.inr rfl) _
 have hc:∀ k,(so.ownBlock = some k ∨ k = A.x) → col k = 6 ∨ col k = 1:=fun k e=>e.elim (fun e=>.inl (h.c.o k e)) (fun e=>.inr (by rw [e];exact h.c.x))
 have ne:∀ {k c:Nat},col k = c → c ≠ 6 → c ≠ 1 → ¬ (so.ownBlock = some k ∨ k = A.x):=fun e h6 h1 t=>by rcases hc _ t with h | h <;> omega
 have lt:∀ {k c:Nat},col k = c → c ≠ 0 → k < w.heap.size:=fun e hc=>(h.c.lt _ (by rw [e];exact hc)).2
 have hnx:¬ so.ownBlock = some A.x:=fun e=>by have:=h.c.o _ e;rw [h.c.x] at this;omega
 have g1:X1 w6 A bu n s.now s.last so:=h.f.keep hf hnx
 have hcg:∀ {k c:Nat},col k = c → c ≠ 6 → c ≠ 0 → k ≠ gg:=fun e h6 h0=>by
  rintro rfl
  rcases hg with hg | hg
  ·have:=h.c.o _ hg;omega
  ·have:=lt e h0;omega
 refine ⟨fun k=>if k = gg then 6 else col k,⟨⟨?_,?_,?_,?_,?_,?_,?_,?_,?_,?_,fun o=>by rw [World.frozen?_setCell];exact g1.fz o⟩,fun j hj=>rg_fr hfull (lt h.c.tb (by omega)) (ne h.c.tb (by omega) (by omega)) (h.tsk j hj),
  h.jb.keep hfull (lt h.c.jb (by omega)) (ne h.c.jb (by omega) (by omega)) (fun i J hi e=>⟨lt (h.c.j i J hi e) (by omega),ne (h.c.j i J hi e) (by omega) (by omega)⟩),
  h.sk.keep hfull (lt h.c.sb (by omega)) (ne h.c.sb (by omega) (by omega)) (fun i hi=>⟨ne (h.c.sk i hi).1 (by omega) (by omega),ne (h.c.sk i hi).2.1 (by omega) (by omega),ne (h.c.sk i hi).2.2.1 (by omega) (by omega),ne (h.c.sk i hi).2.2.2 (by omega) (by omega)⟩),
  h.hp.keep hfull (fun k hk=>ne (h.c.hp k hk) (by omega) (by omega)),h.g.keep hfull (ne h.c.g.1 (by omega) (by omega)) (ne h.c.g.2 (by omega) (by omega)),?_,?_,?_,h.gl,h.ga,h.hk,h.ok,h.jk,h.no,h.mx⟩,fun k hk=>if_neg hk,fun k hk e=>?_⟩
 ·rw [World.cell?_setCell_other _ _ _ _ (addr_ne (by omega))];exact g1.f0
 ·rw [World.cell?_setCell_other _ _ _ _ (addr_ne (by omega))];exact g1.f1
 ·rw [World.cell?_setCell_other _ _ _ _ (addr_ne (by omega))];exact g1.f2
 ·rw [World.cell?_setCell_other _ _ _ _ (addr_ne (by omega))];exact g1.f3
 ·rw [World.cell?_setCell_other _ _ _ _ (addr_ne (by omega))];exact g1.f4
 ·rw [World.cell?_setCell_other _ _ _ _ (addr_ne (by omega))];exact g1.f5
 ·rw [World.cell?_setCell_other _ _ _ _ (addr_ne (by omega))];exact g1.f6
 ·rw [World.cell?_setCell_other _ _ _ _ (addr_ne (by omega))];exact g1.f7
 ·rw [World.cell?_setCell_other _ _ _ _ (addr_ne (by omega))];exact g1.f8
 ·exact World.cell?_setCell_same _ _ _ g1.f9
 ·obtain ⟨f,m,ef,tf,a⟩:=h.t
  exact ⟨f,m,ef,tf,a.keep hfull (ne h.c.t.1 (by omega) (by omega)) (ne h.c.t.2.1 (by omega) (by omega)) (ne h.c.t.2.2 (by omega) (by omega))⟩
 ·rw [List.flatMap_append]
  simp only [List.flatMap_cons,List.flatMap_nil,List.append_nil,List.length_append,List.length_cons,List.length_nil]
  exact ownsRow_keep ho (fun k hk=>Below.heap_setCell _ _ _ _ (by simp only [Value.ownBlock,Option.some.injEq] at hk;subst hk;exact fun e=>hgx e))
 ·have cc:=h.c
  refine ⟨?_,?_,?_,?_,fun i hi=>⟨?_,?_,?_,?_⟩,fun k hk=>?_,⟨?_,?_⟩,⟨?_,?_,?_⟩,fun k hk=>?_,fun i J hi e=>?_,fun k hk=>?_,h16⟩
  ·rw [if_neg (hcg cc.x (by omega) (by omega))];exact cc.x
  ·rw [if_neg (hcg cc.tb (by omega) (by omega))];exact cc.tb
  ·rw [if_neg (hcg cc.jb (by omega) (by omega))];exact cc.jb
  ·rw [if_neg (hcg cc.sb (by omega) (by omega))];exact cc.sb
  ·rw [if_neg (hcg (cc.sk i hi).1 (by omega) (by omega))];exact (cc.sk i hi).1
  ·rw [if_neg (hcg (cc.sk i hi).2.1 (by omega) (by omega))];exact (cc.sk i hi).2.1
  ·rw [if_neg (hcg (cc.sk i hi).2.2.1 (by omega) (by omega))];exact (cc.sk i hi).2.2.1
  ·rw [if_neg (hcg (cc.sk i hi).2.2.2 (by omega) (by omega))];exact (cc.sk i hi).2.2.2
  ·rw [if_neg (hcg (cc.hp k hk) (by omega) (by omega))];exact cc.hp k hk
  ·rw [if_neg (hcg cc.g.1 (by omega) (by omega))];exact cc.g.1
  ·rw [if_neg (hcg cc.g.2 (by omega) (by omega))];exact cc.g.2
  ·rw [if_neg (hcg cc.t.1 (by omega) (by omega))];exact cc.t.1
  ·rw [if_neg (hcg cc.t.2.1 (by omega) (by omega))];exact cc.t.2.1
  ·rw [if_neg (hcg cc.t.2.2 (by omega) (by omega))];exact cc.t.2.2
  ·simp only [Value.ownBlock,Option.some.injEq] at hk
   rw [if_pos hk.symm]
  ·rw [if_neg (hcg (cc.j i J hi e) (by omega) (by omega))];exact cc.j i J hi e
  ·have hs:w6.heap.size = (w6.setCell ⟨A.x,9,none⟩ (.slice (some ⟨gg,0,none⟩) (out.length + 1) c2)).heap.size:=by simp
   by_cases hkg:k = gg
   ·refine ⟨?_,by rw [← hs,hkg];exact hlt⟩
    rw [hkg];exact ownsRow_block ho gg rfl
   ·rw [if_neg hkg] at hk
    have:=cc.lt k hk
    exact ⟨this.1,by rw [← hs];have:=hf.size;omega⟩
 ·by_cases hkg:k = gg
  ·rw [hkg] at e hk
   rcases hg with hg | hg
   ·have:=h.c.o _ hg;omega
   ·omega
  ·show (if k = gg then 6 else col k) = 0
   rw [if_neg hkg];exact e
theorem col_ne {col:Nat → Nat} {a b c d:Nat} (h1:col a = c) (h2:col b = d) (h:c ≠ d):a ≠ b:=fun e=>h (by rw [← h1,← h2,e])
theorem say_is (h:XW B A bu n tk w s out Mx col F hm so jbk gs kj) (a i:Nat) (no band:Int) (h1:1 ≤ a) (h2:a < 12) (h3:i < 16) (ho:out.length ≤ 100000000) :
  Calls Tryz.prog 64 #[.pointer (some ⟨A.x,0,none⟩),.int .i64 a,.int .i64 i,.int .i64 no,.int .i64 band] w fun e w'=>e = .returned (.tuple #[]) ∧
   ∃ col' so',XW B A bu n tk w' s (out ++ [⟨s.now,a,i,no,band⟩]) Mx col' F hm so' jbk gs kj ∧ XR col w col' w':=by
 have f2:=h.f.f2
 have hxl:A.x < w.heap.size:=block_lt h.f.f0
 obtain ⟨i0,ki,kz0,kz1,kz2⟩:=info_parts Tryz.info44
 have hbw:=bel_alloc (Below.refl w.heap.size w) (.cells #[.int .i64 s.now,.int .i64 a,.int .i64 i,.int .i64 no,.int .i64 band] 44)
 have hX:Blk5 (w.alloc (.cells #[.int .i64 s.now,.int .i64 a,.int .i64 i,.int .i64 no,.int .i64 band] 44)) w.heap.size (evf s.now a i no band) :=
  ⟨fun j hj=>cell_newb w _ 44 _ j _ rfl (by match j,hj with | 0,_=>rfl | 1,_=>rfl | 2,_=>rfl | 3,_=>rfl | 4,_=>rfl),fun o=>by simp⟩
 have hW:=Lib.hid (h.below hbw)
 have hcol:Hid (col w.heap.size = 0):=by
  by_cases e:col w.heap.size = 0
  ·exact e
  ·have:=(h.c.lt _ e).2;omega
 have HR:=Lib.hid (XR.of_below (col:=col) hbw)
 have HXL:=Lib.hid hxl
 clear h hbw
 go_enter Tryz.func64,Tryz.ntmps64
 go_wp2_with fail
 generalize hwb:w.heap.size = wb at *
 have HWB:=Lib.hid hwb
 clear hwb
 generalize w.alloc (.cells #[.int .i64 s.now,.int .i64 a,.int .i64 i,.int .i64 no,.int .i64 band] 44) = w1 at *
 have f8:=hW.out.f.f8
 have hxl1:A.x < w1.heap.size:=block_lt f8
 have hwl1:wb < w1.heap.size:=hX.lt
 have hxt:¬ (A.x = A.ty ∨ A.x = A.tp ∨ A.x = A.tq):=fun e=>e.elim (col_ne hW.out.c.x hW.out.c.t.1 (by omega)) (fun e=>e.elim (col_ne hW.out.c.x hW.out.c.t.2.1 (by omega)) (col_ne hW.out.c.x hW.out.c.t.2.2 (by omega)))
 have hwt:¬ (wb = A.ty ∨ wb = A.tp ∨ wb = A.tq):=fun e=>e.elim (col_ne hcol.out hW.out.c.t.1 (by omega)) (fun e=>e.elim (col_ne hcol.out hW.out.c.t.2.1 (by omega)) (col_ne hcol.out hW.out.c.t.2.2 (by omega)))
 have HQ:Hid (∀ w',Fr (fun k=>k = A.ty ∨ k = A.tp ∨ k = A.tq) w1 w' → (w'.cell? ⟨A.x,8,none⟩ = some (.pointer (some ⟨A.ty,0,none⟩)) ∧ w'.cell? ⟨wb,0,none⟩ = some (.int .i64 s.now) ∧ w'.cell? ⟨wb,1,none⟩ = some (.int .i64 a) ∧ w'.cell? ⟨wb,2,none⟩ = some (.int .i64 i) ∧ w'.cell? ⟨wb,3,none⟩ = some (.int .i64 no) ∧ w'.cell? ⟨wb,4,none⟩ = some (.int .i64 band)) ∧ Fr (fun k=>k = A.ty ∨ k = A.tp ∨ k = A.tq) w1 w'):=fun w' hf=>by
  have Y:=hX.keep hf hwt
  exact ⟨⟨(hf.cell (p:=⟨A.x,8,none⟩) hxl1 hxt).trans f8,Y.c 0 (by omega),Y.c 1 (by omega),Y.c 2 (by omega),Y.c 3 (by omega),Y.c 4 (by omega)⟩,hf⟩
 have HT:Hid (Calls Tryz.prog 98 #[.pointer (some ⟨A.ty,0,none⟩),.agg #[.int .i64 s.now,.int .i64 a,.int .i64 i,.int .i64 no,.int .i64 band]] w1.drew fun e w'=>e = .returned (.bool true) ∧ (∃ f' n' ef' tf',TA w' A.ty A.tp A.tq 64 f' n' ef' tf') ∧ Fr (fun j=>j = A.ty ∨ j = A.tp ∨ j = A.tq) w1.drew w'):=by
  obtain ⟨f,m,ef,tf,t0⟩:=hW.out.t
  exact tadd_is (t0.keep (T:=fun _=>False) ((Fr.refl _ w1).drew) (by simp) (by simp) (by simp)) s.now no band h1 h2 h3
 clear f8
 refine wp_region_held_drew (S:=(fun w'=>(w'.cell? ⟨A.x,8,none⟩ = some (.pointer (some ⟨A.ty,0,none⟩)) ∧ w'.cell? ⟨wb,0,none⟩ = some (.int .i64 s.now) ∧ w'.cell? ⟨wb,1,none⟩ = some (.int .i64 a) ∧ w'.cell? ⟨wb,2,none⟩ = some (.int .i64 i) ∧ w'.cell? ⟨wb,3,none⟩ = some (.int .i64 no) ∧ w'.cell? ⟨wb,4,none⟩ = some (.int .i64 band)) ∧ Fr (fun k=>k = A.ty ∨ k = A.tp ∨ k = A.tq) w1 w')) (by kernel_rfl) ?hS0a (fun hHeld=>?_)
 case hS0a=>(try dsimp only);exact HQ.out _ ((Fr.refl _ _).drew)
 refine wtk (i:=0) ?_
 try simp only [Act.put,List.setIfInBounds_toArray,List.set]
 refine wtk (i:=1) ?_
 try simp only [Act.put,List.setIfInBounds_toArray,List.set]
 refine wtk (i:=2) ?_
 try simp only [Act.put,List.setIfInBounds_toArray,List.set]
 refine wtk (i:=3) ?_
 try simp only [Act.put,List.setIfInBounds_toArray,List.set]
 refine wtk (i:=4) ?_
 try simp only [Act.put,List.setIfInBounds_toArray,List.set]
 refine wpAnyH_ready (rs:=[5]) (by kernel_rfl) (by simp) ?_
 refine arc (fun K hK=>?_) AllReadyH.nil
 go_simp;go_at_call 98;refine Calls.mono HT.out ?_;rintro e w4 ⟨rfl,ht4,f4⟩
 refine hK.out _ _ ?hSa6 (fun hHeld2=>?hra6)
 case hSa6=>(try dsimp only);exact HQ.out _ (Fr.trans (S:=fun _=>False) ((Fr.refl _ w1).drew) f4 (fun _ _ h=>h.elim) (fun _ _ h=>h))
 clear hK K hHeld
 have hHeld:=hHeld2
 clear hHeld2
 try simp only [Act.put,List.setIfInBounds_toArray,List.set]
 refine wpAnyH_done (by kernel_rfl) ?_ _
 have hF4:=hHeld.2
 go_wp2_with fail
 have hW4:=hW.out.trace hF4 ht4
 have hR4:XR col w col w4:=HR.out.trans (XR.of_fr hF4 (fun k e=>by
  rcases e with e | e | e
  ·rw [e,hW.out.c.t.1];omega
  ·rw [e,hW.out.c.t.2.1];omega
  ·rw [e,hW.out.c.t.2.2];omega))
 have hX4:=hX.keep hF4 hwt
 clear hHeld ht4 f4 hF4 HT HQ hX hxl1 hwl1
 obtain ⟨a9,c9,rfl⟩:=ownsRow_form hW4.o
 have e0:w4.cell? ⟨wb,0,none⟩ = some (.int .i64 s.now):=hX4.c 0 (by omega)
 have e1:w4.cell? ⟨wb,1,none⟩ = some (.int .i64 a):=hX4.c 1 (by omega)
 have e2:w4.cell? ⟨wb,2,none⟩ = some (.int .i64 i):=hX4.c 2 (by omega)
 have e3:w4.cell? ⟨wb,3,none⟩ = some (.int .i64 no):=hX4.c 3 (by omega)
 have e4:w4.cell? ⟨wb,4,none⟩ = some (.int .i64 band):=hX4.c 4 (by omega)
 have f9:=hW4.f.f9
 have z9:=hW4.f.fz 9
 have hxl4:A.x < w4.heap.size:=block_lt f9
 have HO:=Lib.hid hW4.o
 have HW4:=Lib.hid hW4
 have hwo:Hid (¬ (Value.slice a9 out.length c9).ownBlock = some wb):=fun e=>by
  have:=hW4.c.o wb e
  have:=hcol.out
  omega
 have hxo:Hid (¬ (Value.slice a9 out.length c9).ownBlock = some A.x):=fun e=>by
  have:=hW4.c.o _ e
  have:=hW4.c.x
  omega
 have hBw:B ≤ w4.heap.size:=by
  have:=hW4.c.lt A.x (by rw [hW4.c.x];omega)
  omega
 have HR4:=Lib.hid hR4
 have hwl4:wb < w4.heap.size:=hX4.lt
 have HX4:=Lib.hid hX4
 have f9A:∀ ob,(w4.alloc ob).cell? ⟨A.x,9,none⟩ = some (.slice a9 out.length c9):=fun ob=>(((Fr.refl (fun _=>False) w4).alloc ob).cell (p:=⟨A.x,9,none⟩) hxl4 (by simp)).trans f9
 clear hW4 hX4 hR4
 have HQ2:Hid (∀ w',Fr (fun k=>k = A.x ∨ (Value.slice a9 out.length c9).ownBlock = some k) w4 w' → w'.cell? ⟨wb,0,none⟩ = some (.int .i64 s.now) ∧ w'.cell? ⟨wb,1,none⟩ = some (.int .i64 a) ∧ w'.cell? ⟨wb,2,none⟩ = some (.int .i64 i) ∧ w'.cell? ⟨wb,3,none⟩ = some (.int .i64 no) ∧ w'.cell? ⟨wb,4,none⟩ = some (.int .i64 band) ∧ Fr (fun k=>k = A.x ∨ (Value.slice a9 out.length c9).ownBlock = some k) w4 w'):=fun w' hf=>by
  have Y:=HX4.out.keep hf (fun e=>by
   rcases e with e | e
   ·have h0:=hcol.out;rw [e,HW4.out.c.x] at h0;omega
   ·exact hwo.out e)
  exact ⟨Y.c 0 (by omega),Y.c 1 (by omega),Y.c 2 (by omega),Y.c 3 (by omega),Y.c 4 (by omega),hf⟩
 clear e0 e1 e2 e3 e4
 refine wp_region_held_drew (S:=(fun w'=>w'.cell? ⟨wb,0,none⟩ = some (.int .i64 s.now) ∧ w'.cell? ⟨wb,1,none⟩ = some (.int .i64 a) ∧ w'.cell? ⟨wb,2,none⟩ = some (.int .i64 i) ∧ w'.cell? ⟨wb,3,none⟩ = some (.int .i64 no) ∧ w'.cell? ⟨wb,4,none⟩ = some (.int .i64 band) ∧ Fr (fun k=>k = A.x ∨ (Value.slice a9 out.length c9).ownBlock = some k) w4 w')) (by kernel_rfl) ?hS0b (fun hHeld=>?_)
 case hS0b=>(try dsimp only);exact HQ2.out _ ((Fr.refl _ _).drew)
 refine wtk (i:=0) ?_
 try simp only [Act.put,List.setIfInBounds_toArray,List.set]
 refine wtk (i:=1) ?_
 try simp only [Act.put,List.setIfInBounds_toArray,List.set]
 refine wtk (i:=2) ?_
 try simp only [Act.put,List.setIfInBounds_toArray,List.set]
 refine wtk (i:=3) ?_
 try simp only [Act.put,List.setIfInBounds_toArray,List.set]
 refine wtk (i:=5) ?_
 try simp only [Act.put,List.setIfInBounds_toArray,List.set]
 refine wpAnyH_ready (rs:=[4,6]) (by kernel_rfl) (by simp) ?_
 refine arc (fun K hK=>?_) ?_
 ·skip
  go_simp
  refine hK.out _ _ ?hSb6 (fun hHeld2=>?hrb6)
  case hSb6=>(try dsimp only);exact HQ2.out _ (by first | exact (Fr.refl _ _).drew | exact hHeld.2.2.2.2.2 | exact Fr.alloc hHeld.2.2.2.2.2 _ | exact Fr.grown hHeld.2.2.2.2.2 hgrow (fun g h _=>.inr h) | exact Fr.setCell hHeld.2.2.2.2.2 (p:=⟨A.x,9,none⟩) (.inl rfl) _)
  clear hK K hHeld
  have hHeld:=hHeld2
  clear hHeld2
  try simp only [Act.put,List.setIfInBounds_toArray,List.set]
  refine wpAnyH_ready (rs:=[6]) (by kernel_rfl) (by simp) ?_
  refine arc (fun K hK=>?_) AllReadyH.nil
  go_simp
  refine hK.out _ _ ?hSb7 (fun hHeld2=>?hrb7)
  case hSb7=>(try dsimp only);exact HQ2.out _ (by first | exact (Fr.refl _ _).drew | exact hHeld.2.2.2.2.2 | exact Fr.alloc hHeld.2.2.2.2.2 _ | exact Fr.grown hHeld.2.2.2.2.2 hgrow (fun g h _=>.inr h) | exact Fr.setCell hHeld.2.2.2.2.2 (p:=⟨A.x,9,none⟩) (.inl rfl) _)
  clear hK K hHeld
  have hHeld:=hHeld2
  clear hHeld2
  try simp only [Act.put,List.setIfInBounds_toArray,List.set]
  refine wpAnyH_ready (rs:=[7]) (by kernel_rfl) (by simp) ?_
  refine arc (fun K hK=>?_) AllReadyH.nil
  refine step_append_lies _ (by rfl) _ _ _ (by rfl) B 44 i0 _ 5 40 Tryz.underlying36 ki kz0 kz1 kz2 rfl (by omega) _ _ _ (by rfl) (own_fr HO.out (by repeat (first | exact Fr.refl _ _ | refine Fr.alloc ?_ _ | refine Fr.drew ?_ | refine Fr.drewN ?_ _))) ⟨w4.heap.size,0,none⟩ 1 1 [.int .i64 s.now,.int .i64 a,.int .i64 i,.int .i64 no,.int .i64 band] (by rfl) (by rfl) (fun j u hu=>by first | exact cell_new _ _ _ j u hu | (rw [World.cell?_drew];exact cell_new _ _ _ j u hu)) (by simp [Value.oneCell']) (by omega) (by unfold maxLen;omega) (by omega) (by simp;omega) (w4.heap.size + 1) (by simp) ?_;intro gg cap2 w6 hown6 hgrow hat hlt6;have f6:Fr (fun q=>(Value.slice a9 out.length c9).ownBlock = some q) w4 w6:=Fr.grown (by repeat (first | exact Fr.refl _ _ | refine Fr.alloc ?_ _ | refine Fr.drew ?_ | refine Fr.drewN ?_ _)) hgrow (fun g h _=>h);have c6:=(f6.cell (p:=⟨A.x,9,none⟩) hxl4 hxo.out).trans f9;have z6:=(f6.frozen (p:=⟨A.x,9,none⟩) hxl4 hxo.out).trans z9;try simp only [Act.put,List.setIfInBounds_toArray,List.set]
  refine hK.out _ _ ?hSb8 (fun hHeld2=>?hrb8)
  case hSb8=>(try dsimp only);exact HQ2.out _ (by first | exact (Fr.refl _ _).drew | exact hHeld.2.2.2.2.2 | exact Fr.alloc hHeld.2.2.2.2.2 _ | exact Fr.grown hHeld.2.2.2.2.2 hgrow (fun g h _=>.inr h) | exact Fr.setCell hHeld.2.2.2.2.2 (p:=⟨A.x,9,none⟩) (.inl rfl) _)
  clear hK K hHeld
  have hHeld:=hHeld2
  clear hHeld2
  try simp only [Act.put,List.setIfInBounds_toArray,List.set]
  refine wtk (i:=8) ?_
  try simp only [Act.put,List.setIfInBounds_toArray,List.set]
  refine wtk (i:=9) ?_
  try simp only [Act.put,List.setIfInBounds_toArray,List.set]
  refine wpAnyH_ready (rs:=[10]) (by kernel_rfl) (by simp) ?_
  refine arc (fun K hK=>?_) AllReadyH.nil
  go_simp
  refine hK.out _ _ ?hSb11 (fun hHeld2=>?hrb11)
  case hSb11=>(try dsimp only);exact HQ2.out _ (by first | exact (Fr.refl _ _).drew | exact hHeld.2.2.2.2.2 | exact Fr.alloc hHeld.2.2.2.2.2 _ | exact Fr.grown hHeld.2.2.2.2.2 hgrow (fun g h _=>.inr h) | exact Fr.setCell hHeld.2.2.2.2.2 (p:=⟨A.x,9,none⟩) (.inl rfl) _)
  clear hK K hHeld
  have hHeld:=hHeld2
  clear hHeld2
  try simp only [Act.put,List.setIfInBounds_toArray,List.set]
  refine wpAnyH_done (by kernel_rfl) ?_ _
  obtain ⟨col',hXW,hc1,hc2⟩:=HW4.out.more (e:=⟨s.now,a,i,no,band⟩) f6 hown6 (hat.imp id (fun e=>by rw [e];omega)) hlt6
  clear hHeld hown6 hgrow c6 z6 f9A hat
  go_wp2_with fail
  go_end0
  refine ⟨rfl,col',_,hXW,HR4.out.trans ⟨((f6.mono (T:=fun k=>col k ≠ 0) (fun k _ e=>by rw [HW4.out.c.o k e];omega)).setCell (p:=⟨A.x,9,none⟩) (by show col A.x ≠ 0;rw [HW4.out.c.x];omega) _),hc2⟩⟩
 refine arc (fun K hK=>?_) ?_
 ·skip
  go_simp
  refine hK.out _ _ ?hSb12 (fun hHeld2=>?hrb12)
  case hSb12=>(try dsimp only);exact HQ2.out _ (by first | exact (Fr.refl _ _).drew | exact hHeld.2.2.2.2.2 | exact Fr.alloc hHeld.2.2.2.2.2 _ | exact Fr.grown hHeld.2.2.2.2.2 hgrow (fun g h _=>.inr h) | exact Fr.setCell hHeld.2.2.2.2.2 (p:=⟨A.x,9,none⟩) (.inl rfl) _)
  clear hK K hHeld
  have hHeld:=hHeld2
  clear hHeld2
  try simp only [Act.put,List.setIfInBounds_toArray,List.set]
  refine wpAnyH_ready (rs:=[4]) (by kernel_rfl) (by simp) ?_
  refine arc (fun K hK=>?_) AllReadyH.nil
  go_simp
  refine hK.out _ _ ?hSb13 (fun hHeld2=>?hrb13)
  case hSb13=>(try dsimp only);exact HQ2.out _ (by first | exact (Fr.refl _ _).drew | exact hHeld.2.2.2.2.2 | exact Fr.alloc hHeld.2.2.2.2.2 _ | exact Fr.grown hHeld.2.2.2.2.2 hgrow (fun g h _=>.inr h) | exact Fr.setCell hHeld.2.2.2.2.2 (p:=⟨A.x,9,none⟩) (.inl rfl) _)
  clear hK K hHeld
  have hHeld:=hHeld2
  clear hHeld2
  try simp only [Act.put,List.setIfInBounds_toArray,List.set]
  refine wpAnyH_ready (rs:=[7]) (by kernel_rfl) (by simp) ?_
  refine arc (fun K hK=>?_) AllReadyH.nil
  refine step_append_lies _ (by rfl) _ _ _ (by rfl) B 44 i0 _ 5 40 Tryz.underlying36 ki kz0 kz1 kz2 rfl (by omega) _ _ _ (by rfl) (own_fr HO.out (by repeat (first | exact Fr.refl _ _ | refine Fr.alloc ?_ _ | refine Fr.drew ?_ | refine Fr.drewN ?_ _))) ⟨w4.heap.size,0,none⟩ 1 1 [.int .i64 s.now,.int .i64 a,.int .i64 i,.int .i64 no,.int .i64 band] (by rfl) (by rfl) (fun j u hu=>by first | exact cell_new _ _ _ j u hu | (rw [World.cell?_drew];exact cell_new _ _ _ j u hu)) (by simp [Value.oneCell']) (by omega) (by unfold maxLen;omega) (by omega) (by simp;omega) (w4.heap.size + 1) (by simp) ?_;intro gg cap2 w6 hown6 hgrow hat hlt6;have f6:Fr (fun q=>(Value.slice a9 out.length c9).ownBlock = some q) w4 w6:=Fr.grown (by repeat (first | exact Fr.refl _ _ | refine Fr.alloc ?_ _ | refine Fr.drew ?_ | refine Fr.drewN ?_ _)) hgrow (fun g h _=>h);have c6:=(f6.cell (p:=⟨A.x,9,none⟩) hxl4 hxo.out).trans f9;have z6:=(f6.frozen (p:=⟨A.x,9,none⟩) hxl4 hxo.out).trans z9;try simp only [Act.put,List.setIfInBounds_toArray,List.set]
  refine hK.out _ _ ?hSb14 (fun hHeld2=>?hrb14)
  case hSb14=>(try dsimp only);exact HQ2.out _ (by first | exact (Fr.refl _ _).drew | exact hHeld.2.2.2.2.2 | exact Fr.alloc hHeld.2.2.2.2.2 _ | exact Fr.grown hHeld.2.2.2.2.2 hgrow (fun g h _=>.inr h) | exact Fr.setCell hHeld.2.2.2.2.2 (p:=⟨A.x,9,none⟩) (.inl rfl) _)
  clear hK K hHeld
  have hHeld:=hHeld2
  clear hHeld2
  try simp only [Act.put,List.setIfInBounds_toArray,List.set]
  refine wtk (i:=8) ?_
  try simp only [Act.put,List.setIfInBounds_toArray,List.set]
  refine wtk (i:=9) ?_
  try simp only [Act.put,List.setIfInBounds_toArray,List.set]
  refine wpAnyH_ready (rs:=[10]) (by kernel_rfl) (by simp) ?_
  refine arc (fun K hK=>?_) AllReadyH.nil
  go_simp
  refine hK.out _ _ ?hSb17 (fun hHeld2=>?hrb17)
  case hSb17=>(try dsimp only);exact HQ2.out _ (by first | exact (Fr.refl _ _).drew | exact hHeld.2.2.2.2.2 | exact Fr.alloc hHeld.2.2.2.2.2 _ | exact Fr.grown hHeld.2.2.2.2.2 hgrow (fun g h _=>.inr h) | exact Fr.setCell hHeld.2.2.2.2.2 (p:=⟨A.x,9,none⟩) (.inl rfl) _)
  clear hK K hHeld
  have hHeld:=hHeld2
  clear hHeld2
  try simp only [Act.put,List.setIfInBounds_toArray,List.set]
  refine wpAnyH_done (by kernel_rfl) ?_ _
  obtain ⟨col',hXW,hc1,hc2⟩:=HW4.out.more (e:=⟨s.now,a,i,no,band⟩) f6 hown6 (hat.imp id (fun e=>by rw [e];omega)) hlt6
  clear hHeld hown6 hgrow c6 z6 f9A hat
  go_wp2_with fail
  go_end0
  refine ⟨rfl,col',_,hXW,HR4.out.trans ⟨((f6.mono (T:=fun k=>col k ≠ 0) (fun k _ e=>by rw [HW4.out.c.o k e];omega)).setCell (p:=⟨A.x,9,none⟩) (by show col A.x ≠ 0;rw [HW4.out.c.x];omega) _),hc2⟩⟩
 exact AllReadyH.nil
end
end
end Go.Proofs.YtnoahekcemfmcaaGreatDoor
