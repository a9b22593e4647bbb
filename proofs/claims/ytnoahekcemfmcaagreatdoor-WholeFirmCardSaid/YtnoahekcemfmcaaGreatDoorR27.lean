/- A part of the walk: Xo. -/
import Derived.Test.YtnoahekcemfmcaaGreatDoorR26
namespace Go.Proofs.YtnoahekcemfmcaaGreatDoor
set_option linter.unusedVariables false
set_option linter.unusedSimpArgs false
set_option maxHeartbeats 80000000
set_option maxRecDepth 100000
section
open Go.RowKit
section
variable {B n:Nat} {A:XFix} {bu:Int} {tk:Nat → Tk} {w w':World} {s:St} {out:List Ev} {Mx:Nat} {col:Nat → Nat} {F:Nat → Prop} {hm:List Q} {so:Value} {jbk:Nat → Nat} {gs:List Gate} {kj:Nat → Option Jb} {T:Nat → Prop}
def RG (B n:Nat) (A:XFix) (bu:Int) (tk:Nat → Tk) (w w2:World) (s:St) (out:List Ev) (Mx:Nat) (col:Nat → Nat) (F:Nat → Prop) (hm:List Q) (so:Value) (jbk:Nat → Nat) (gs:List Gate) (kj:Nat → Option Jb):Prop :=
 XW B A bu n tk w2 s out Mx col F hm so jbk gs kj ∧ XR col w col w2
theorem run_zero (h:XW B A bu n tk w s out Mx col F hm so jbk gs kj) {i:Nat} (hi:i < n) {J:Jb} (hJ:s.job i = some J) :
  w.cell? ⟨A.x,3,none⟩ = some (.slice (some ⟨A.jb,0,none⟩) n A.jc) ∧ w.cell? ⟨A.x,4,none⟩ = some (.int .i64 s.last) ∧ w.cell? ⟨A.jb,i,none⟩ = some (.pointer (some ⟨jbk i,0,none⟩)) ∧ w.cell? ⟨jbk i,6,none⟩ = some (.bool J.begun) ∧ A.x < w.heap.size ∧ A.jb < w.heap.size ∧ jbk i < w.heap.size:=by
 have hrow:=h.jb.row i hi
 rw [hJ] at hrow
 have hrg:=h.jb.rg i J hi hJ
 have c6:=hrg 6 _ rfl
 simp only [Nat.zero_add] at c6
 exact ⟨h.f.f3,h.f.f4,hrow,c6,block_lt h.f.f3,block_lt hrow,block_lt c6⟩
theorem run_one (h:XW B A bu n tk w s out Mx col F hm so jbk gs kj) {i:Nat} (hi:i < n) {J:Jb} (hJ:s.job i = some J) {w1:World} (hb1:Below w.heap.size w w1) (o:Obj) :
  w1.cell? ⟨A.x,3,none⟩ = some (.slice (some ⟨A.jb,0,none⟩) n A.jc) ∧ w1.cell? ⟨A.x,4,none⟩ = some (.int .i64 s.last) ∧ w1.frozen? ⟨A.x,4,none⟩ = false ∧ w1.cell? ⟨A.jb,i,none⟩ = some (.pointer (some ⟨jbk i,0,none⟩)) ∧ w1.cell? ⟨jbk i,6,none⟩ = some (.bool J.begun) ∧
   A.jb ≠ A.x ∧ jbk i ≠ A.x ∧ A.x < w1.heap.size ∧ A.jb < w1.heap.size ∧ jbk i < w1.heap.size ∧
   Hid (((w1.setCell ⟨A.x,4,none⟩ (.int .i64 (i:Int))).alloc o).rangeAt (jbk i) 0 (jbc i (tk i) J) ∧ RG B n A bu tk w ((w1.setCell ⟨A.x,4,none⟩ (.int .i64 (i:Int))).alloc o) { s with last:=(i:Int) } out Mx col F hm so jbk gs kj):=by
 have h1:=h.below hb1
 have hrow:=h1.jb.row i hi
 rw [hJ] at hrow
 have hrg:=h1.jb.rg i J hi hJ
 have c6:=hrg 6 _ rfl
 simp only [Nat.zero_add] at c6
 obtain ⟨h2,r2⟩:=h1.setLast (i:Int)
 have hb3:=bel_alloc (Below.refl (w1.setCell ⟨A.x,4,none⟩ (.int .i64 (i:Int))).heap.size (w1.setCell ⟨A.x,4,none⟩ (.int .i64 (i:Int)))) o
 have h3:=h2.below hb3
 exact ⟨h1.f.f3,h1.f.f4,h1.f.fz 4,hrow,c6,col_ne h1.c.jb h1.c.x (by omega),col_ne (h1.c.j i J hi hJ) h1.c.x (by omega),block_lt h1.f.f3,block_lt hrow,block_lt c6,h3.jb.rg i J hi hJ,h3,((XR.of_below hb1).trans r2).trans (XR.of_below hb3)⟩
theorem run_oneN (h:XW B A bu n tk w s out Mx col F hm so jbk gs kj) {i:Nat} (hi:i < n) {J:Jb} (hJ:s.job i = some J) :
  w.cell? ⟨A.x,3,none⟩ = some (.slice (some ⟨A.jb,0,none⟩) n A.jc) ∧ w.cell? ⟨A.x,4,none⟩ = some (.int .i64 s.last) ∧ w.frozen? ⟨A.x,4,none⟩ = false ∧ w.cell? ⟨A.jb,i,none⟩ = some (.pointer (some ⟨jbk i,0,none⟩)) ∧ w.cell? ⟨jbk i,6,none⟩ = some (.bool J.begun) ∧
   A.jb ≠ A.x ∧ jbk i ≠ A.x ∧ A.x < w.heap.size ∧ A.jb < w.heap.size ∧ jbk i < w.heap.size ∧
   Hid ((w.setCell ⟨A.x,4,none⟩ (.int .i64 (i:Int))).rangeAt (jbk i) 0 (jbc i (tk i) J) ∧ RG B n A bu tk w (w.setCell ⟨A.x,4,none⟩ (.int .i64 (i:Int))) { s with last:=(i:Int) } out Mx col F hm so jbk gs kj):=by
 have hrow:=h.jb.row i hi
 rw [hJ] at hrow
 have hrg:=h.jb.rg i J hi hJ
 have c6:=hrg 6 _ rfl
 simp only [Nat.zero_add] at c6
 obtain ⟨h2,r2⟩:=h.setLast (i:Int)
 exact ⟨h.f.f3,h.f.f4,h.f.fz 4,hrow,c6,col_ne h.c.jb h.c.x (by omega),col_ne (h.c.j i J hi hJ) h.c.x (by omega),block_lt h.f.f3,block_lt hrow,block_lt c6,h2.jb.rg i J hi hJ,h2,r2⟩
theorem run_two {w2 w3:World} {cs:List Value} {b:Nat} (G:w2.rangeAt b 0 cs ∧ RG B n A bu tk w w2 s out Mx col F hm so jbk gs kj) (hb:Below w2.heap.size w2 w3):Hid (RG B n A bu tk w w3 s out Mx col F hm so jbk gs kj) :=
 ⟨G.2.1.below hb,G.2.2.trans (XR.of_below hb)⟩
theorem run_three {w3:World} (G:RG B n A bu tk w w3 s out Mx col F hm so jbk gs kj) (t:Tk) (J:Jb) (i:Int) (Z:Array Value) (hz:23 ≤ Z.size:=by simp) :
  Hid (((w3.alloc (.cells Z 59)).setCells w3.heap.size 0 (jbc i t J)).rangeAt w3.heap.size 0 (jbc i t J) ∧ RG B n A bu tk w ((w3.alloc (.cells Z 59)).setCells w3.heap.size 0 (jbc i t J)) s out Mx col F hm so jbk gs kj):=by
 have hb:Below w3.heap.size w3 ((w3.alloc (.cells Z 59)).setCells w3.heap.size 0 (jbc i t J)):=below_setCells (Nat.le_refl _) _ _ _ (bel_alloc (Below.refl _ _) _)
 exact ⟨World.rangeAt_setCells_same _ _ _ (jbc i t J) (th_new w3 Z 59 w3.heap.size 23 rfl hz),G.1.below hb,G.2.trans (XR.of_below hb)⟩
theorem Tryz.info173:(Tryz.prog.info? 173).map (fun i=>(i.zero,i.size,i.bytes)) = some (some .nilFunc,1,8):=by kernel_rfl
theorem map_none3 (w:World) (es:Array MapEntry) (c:Nat) (k:Int) (h:Instr.findNow (.int .i64) (.int .i64 k) es.toList 0 = some none) :
  (Instr.lookup 174 (.map (some w.heap.size)) (.int .i64 k) true).run Tryz.prog (w.alloc (.map es c)) = .ok (.tuple #[.nilFunc,.bool false]) (w.alloc (.map es c)):=by
 have hb:=map_at w (.map es c)
 obtain ⟨i0,ki,kz0,kz1,kz2⟩:=info_parts Tryz.info173
 simp [Instr.lookup,run_underlying Tryz.underlying174,MapKept.run_getObj_map hb,map_ck,MapKept.run_findKey Tryz.underlying3 h,Result.andThen,zeroValue,typeInfo,ki,kz0]
theorem run_same (h:XW B A bu n tk w s out Mx col F hm so jbk gs s.job) (i:Nat) (J:Jb) (hi:i < n) (hJ:s.job i = some J) (hit:Bool) (rest:List Q) (hh:hm = keyJ tk i J :: rest) (hb:J.begun = true) (hl:s.last = (i:Int)) (ho:out.length ≤ 90000000) (hMx:Mx + 2 ≤ 1000000) :
  Calls Tryz.prog 41 #[.pointer (some ⟨A.x,0,none⟩),.bool hit] w fun e w'=>e = .returned (.tuple #[]) ∧
   ∃ col' so' hm',XW B A bu n tk w' (runS tk s i J hit).1 (out ++ (runS tk s i J hit).2) (Mx + 2) col' F hm' so' jbk gs (runS tk s i J hit).1.job ∧ XR col w col' w':=by
 obtain ⟨J',what,hst⟩:∃ J' what,jstep (tk i) J hit = (J',what):=⟨_,_,rfl⟩
 have hn16:=h.c.n16
 have hi0:(0:Int) ≤ (i:Int):=by omega
 have hiI:(i:Int) < (n:Int):=by omega
 have f5:=h.f.f5
 have HP:=Lib.hid (peek_m h.hp)
 rw [hh] at HP
 unfold peekM qv keyJ at HP
 simp only at HP
 have hjk:=h.jk i J hi hJ
 have hmx:=h.mx
 have HS:=Lib.hid fun W=>jstep_is (i:Int) (tk i) (h.ok i hi) J hjk.1 ⟨hjk.2.1,by omega⟩ (by omega) hit W
 rw [hst,jbv_eq,jbv_eq] at HS
 have hwh:=(jstep_laws (h.ok i hi) hjk.1 hit).2.2.2.2.2.2
 rw [hst] at hwh
 have HRS:Hid (∀ {W:World} {col2:Nat → Nat} {hm2:List Q} {so2:Value} {c:Int} {o:List Ev},what = c → c ≠ 0 → o.length ≤ 100000000 → XW B A bu n tk W { s with job:=upd s.job i (some J'),last:=(i:Int) } o (Mx + 1) col2 F hm2 so2 jbk gs s.job → ∀ fn,(c = 1 ∧ fn = 72 ∨ c = 2 ∧ fn = 74 ∨ c = 3 ∧ fn = 73 ∨ c = 4 ∧ fn = 75) →
   Calls Tryz.prog fn #[.pointer (some ⟨A.x,0,none⟩),.int .i64 i] W fun e w'=>e = .returned (.tuple #[]) ∧
   ∃ col' so' hm',XW B A bu n tk w' (runS tk s i J hit).1 (o ++ (runOut tk { s with job:=upd s.job i (some J'),last:=(i:Int) } i J' what).2) (Mx + 2) col' F hm' so' jbk gs (runS tk s i J hit).1.job ∧ XR col2 W col' w'):=fun {W} {col2} {hm2} {so2} {c} {o} hwc hc0 hlo hX fn hfn=>by
  subst hwc
  have e:(runS tk s i J hit).1 = (runOut tk { s with job:=upd s.job i (some J'),last:=(i:Int) } i J' what).1:=by
   show (runOut tk _ i (jstep (tk i) J hit).1 (jstep (tk i) J hit).2).1 = _
   rw [hst]
  rw [e]
  exact does_is hX i J' J hi (upd_self _ _ _) (by rw [upd_upd,upd_id _ _ _ hJ]) what fn hfn (fun hr=>step_stays (h.ok i hi) hjk hit hst rfl hr) hlo (by omega)
 have HEV:Hid ((runS tk s i J hit).2 = evStart tk s i J ++ (runOut tk { s with job:=upd s.job i (some J'),last:=(i:Int) } i J' what).2):=by
  show (evStart tk s i J ++ (runOut tk _ i (jstep (tk i) J hit).1 (jstep (tk i) J hit).2).2) = _
  rw [hst]
 have HRZ:Hid (what = 0 → (runS tk s i J hit).1 = { s with job:=upd s.job i (some J'),last:=(i:Int) } ∧ (runOut tk { s with job:=upd s.job i (some J'),last:=(i:Int) } i J' what).2 = []
   ∧ ∀ {W:World} {col2:Nat → Nat} {hm2:List Q} {so2:Value} {o:List Ev},XW B A bu n tk W { s with job:=upd s.job i (some J'),last:=(i:Int) } o (Mx + 1) col2 F hm2 so2 jbk gs s.job → XW B A bu n tk W { s with job:=upd s.job i (some J'),last:=(i:Int) } o (Mx + 2) col2 F hm2 so2 jbk gs (upd s.job i (some J'))):=fun hw0=>by
  subst hw0
  refine ⟨?_,rfl,fun hX=>?_⟩
  ·show (runOut tk _ i (jstep (tk i) J hit).1 (jstep (tk i) J hit).2).1 = _
   rw [hst];rfl
  ·obtain ⟨k1,k2⟩:=step_stays (Mx:=Mx) (s:=s) (h.ok i hi) hjk hit hst rfl rfl
   exact (hX.same hi hJ J' k1 (k2 (by omega))).mxle (Nat.le_succ _) (by omega)
 have H:=Lib.hid h
 have HJ:=Lib.hid hJ
 have HB:=Lib.hid hb
 have HL:=Lib.hid hl
 have hxl:A.x < w.heap.size:=block_lt f5
 have HBN:Hid (∀ k,col k ≠ 0 → k < w.heap.size):=fun k hk=>(h.c.lt k hk).2
 clear h hh hJ hb hl hst hjk
 go_enter Tryz.func41,Tryz.ntmps41
 go_wp2_with (first | (go_at_call 70;refine HP.out.mono ?_;rintro e w1 ⟨rfl,hb1⟩;obtain ⟨f3,f4,z4,hrow,c6,hxj,hxk,hx1,hj1,hk1,G2⟩:=run_one H.out hi HJ.out hb1 (Obj.cells #[.int .i64 (bandJ (tk i) J),.int .i64 (tk i).Prio,.int .i64 J.rel,.int .i64 i] 166);try rw [HL.out] at f4;rw [HB.out] at c6;have hrL:=G2.out.1;clear HP) | fail | (refine wpList_load_mid rfl 59 _ rfl (jbk i) 0 rfl (jbc i (tk i) J) _ hrL Tryz.underlying59 rfl Tryz.size59 ?_) | (go_at_call 71;refine Calls.mono (HS.out _) ?_;rintro e w3 ⟨rfl,hb3⟩;have G3:=run_two G2.out hb3;clear G2 hrL f3 f4 z4 hrow c6) | (refine wpList_store_mid rfl 59 _ _ rfl w3.heap.size 0 (jbc i (tk i) J').toArray rfl rfl (th_new w3 #[.int .i64 0,.int .i64 0,.int .i64 0,.int .i64 0,.bool false,.bool false,.bool false,.string ⟨#[]⟩,.int .i64 0,.int .i64 0,.int .i64 0,.int .i64 0,.int .i64 0,.int .i64 0,.int .i64 0,.int .i64 0,.int .i64 0,.int .i64 0,.int .i64 0,.int .i64 0,.int .i64 0,.bool false,.int .i64 0] 59 w3.heap.size 23 rfl (by simp)) Tryz.size59 (by simp [Value.oneCell',jbc]) ?_;try simp only [List.toList_toArray];have G4:=run_three G3.out (tk i) J' (i:Int) #[.int .i64 0,.int .i64 0,.int .i64 0,.int .i64 0,.bool false,.bool false,.bool false,.string ⟨#[]⟩,.int .i64 0,.int .i64 0,.int .i64 0,.int .i64 0,.int .i64 0,.int .i64 0,.int .i64 0,.int .i64 0,.int .i64 0,.int .i64 0,.int .i64 0,.int .i64 0,.int .i64 0,.bool false,.int .i64 0];generalize World.setCells (w3.alloc (.cells #[.int .i64 0,.int .i64 0,.int .i64 0,.int .i64 0,.bool false,.bool false,.bool false,.string ⟨#[]⟩,.int .i64 0,.int .i64 0,.int .i64 0,.int .i64 0,.int .i64 0,.int .i64 0,.int .i64 0,.int .i64 0,.int .i64 0,.int .i64 0,.int .i64 0,.int .i64 0,.int .i64 0,.bool false,.int .i64 0] 59)) w3.heap.size 0 (jbc i (tk i) J') = w4 at G4 ⊢;have hs3:=G3.out.2.fr.size;clear G3))
 obtain ⟨bN,hbN⟩:∃ b,b = w3.heap.size:=⟨_,rfl⟩
 rw [← hbN] at G4 ⊢
 have hcN:col bN = 0:=by
  by_cases e:col bN = 0
  ·exact e
  ·exact absurd (HBN.out bN e) (by omega)
 have hNj:bN ≠ jbk i:=col_ne hcN (G4.out.2.1.c.j i J hi HJ.out) (by omega)
 have hbNl:bN < w4.heap.size:=block_lt (G4.out.1 0 _ rfl)
 have hth4:w4.drew.there (jbk i) 0 23:=G4.out.2.1.jb.th i J hi HJ.out
 have HQ:Hid (∀ w',Fr (fun q=>q = jbk i) w4 w' → w'.cell? ⟨A.x,3,none⟩ = some (.slice (some ⟨A.jb,0,none⟩) n A.jc) ∧ w'.cell? ⟨A.jb,i,none⟩ = some (.pointer (some ⟨jbk i,0,none⟩)) ∧ w'.rangeAt bN 0 (jbc i (tk i) J') ∧ Fr (fun q=>q = jbk i) w4 w'):=fun W hf=>by
  have cc:=G4.out.2.1.c
  have hcb:=cc.j i J hi HJ.out
  have hr:=G4.out.2.1.jb.row i hi
  rw [show ({ s with last:=(i:Int) }:St).job i = some J from HJ.out] at hr
  have f3:=G4.out.2.1.f.f3
  exact ⟨(hf.cell (p:=⟨A.x,3,none⟩) (block_lt f3) (col_ne cc.x hcb (by omega))).trans f3,(hf.cell (p:=⟨A.jb,i,none⟩) (block_lt hr) (col_ne cc.jb hcb (by omega))).trans hr,rg_fr hf hbNl hNj G4.out.1,hf⟩
 refine wp_region_held_drew (S:=(fun w'=>w'.cell? ⟨A.x,3,none⟩ = some (.slice (some ⟨A.jb,0,none⟩) n A.jc) ∧ w'.cell? ⟨A.jb,i,none⟩ = some (.pointer (some ⟨jbk i,0,none⟩)) ∧ w'.rangeAt bN 0 (jbc i (tk i) J') ∧ Fr (fun q=>q = jbk i) w4 w')) (by kernel_rfl) ?hS0t (fun hHeld=>?_)
 case hS0t=>(try dsimp only);exact HQ.out _ ((Fr.refl _ _).drew)
 refine wtk (i:=0) ?_
 try simp only [Act.put,List.setIfInBounds_toArray,List.set]
 refine wtk (i:=1) ?_
 try simp only [Act.put,List.setIfInBounds_toArray,List.set]
 refine wtk (i:=2) ?_
 try simp only [Act.put,List.setIfInBounds_toArray,List.set]
 refine wtk (i:=3) ?_
 try simp only [Act.put,List.setIfInBounds_toArray,List.set]
 refine wtk (i:=4) ?_
 try simp only [Act.put,List.setIfInBounds_toArray,List.set]
 refine wtk (i:=5) ?_
 try simp only [Act.put,List.setIfInBounds_toArray,List.set]
 refine wtk (i:=6) ?_
 try simp only [Act.put,List.setIfInBounds_toArray,List.set]
 refine wpAnyH_take (i := 7) (oi := { dst := some 77, op := Op.load 59 (Operand.tmp 7), type := 59, pos := "exec.go:184", after := #[], guard := none }) rfl (by kernel_rfl) (by kernel_rfl) (by kernel_rfl) (fun _ _ _ h => h) (yieldsIf_load_mid (by rfl) 59 _ rfl bN 0 rfl (jbc i (tk i) J') _ ?hSt8 Tryz.underlying59 rfl Tryz.size59) (by assumption) ?_
 case hSt8=>(intro wS hSw;(try dsimp only at hSw);exact hSw.2.2.1)
 try simp only [Act.put,List.setIfInBounds_toArray,List.set]
 refine wtk (i:=8) ?_
 try simp only [Act.put,List.setIfInBounds_toArray,List.set]
 refine wpAnyH_ready (rs:=[9]) (by kernel_rfl) (by simp) ?_
 refine arc (fun K hK=>?_) AllReadyH.nil
 rw [if_pos (by rfl)]
 refine wp_store_mid 59 _ _ rfl (jbk i) 0 _ rfl rfl hth4 Tryz.size59 (by simp [Value.oneCell',jbc]) ?_
 try simp only [Act.put,List.setIfInBounds_toArray,List.set]
 refine hK.out _ _ ?hSt10 (fun hHeld2=>?hrt10)
 case hSt10=>(try dsimp only);exact HQ.out _ (fr_setCells (S:=fun q=>q = jbk i) rfl _ _ _ hHeld.2.2.2)
 clear hK K hHeld
 have hHeld:=hHeld2
 clear hHeld2
 try simp only [Act.put,List.setIfInBounds_toArray,List.set]
 refine wpAnyH_done (by kernel_rfl) ?_ _
 have X4:=G4.out.2.1.keep (T:=fun _=>False) ((Fr.refl _ w4).drew) (fun _ h=>h.elim)
 have X5:=X4.setJob hi (show ({ s with last:=(i:Int) }:St).job i = some J from HJ.out) J'
 have R5:=(G4.out.2.2.trans (XR.of_fr (T:=fun _=>False) ((Fr.refl _ w4).drew) (fun _ h=>h.elim))).trans X5.2
 have HX5:=Lib.hid (X5.1.mxle (Nat.le_succ _) (by omega))
 have HR5:=Lib.hid R5
 clear X4 X5 R5 hHeld HQ G4 hth4
 generalize (w4.drew.setCells (jbk i) 0 (jbc i (tk i) J')) = w5 at HX5 HR5 ⊢
 have hmm:=@run_makeMap Tryz.prog
 have hmf:∀ (fn:Fn) (first cap:Array Value) (w:World),(Instr.makeFunc fn first cap).run Tryz.prog w = .ok (.func fn first cap) w:=fun _ _ _ _=>rfl
 have p1:(Instr.mapUpdate 174 (.map (some w5.heap.size)) (.int .i64 1) (.func (.func 72) #[.pointer (some ⟨A.x,0,none⟩)] #[])).run Tryz.prog (w5.alloc (.map #[] 0)) = .ok () (w5.alloc (.map #[{ key:=.int .i64 1,val:=.func (.func 72) #[.pointer (some ⟨A.x,0,none⟩)] #[],born:=0 }] 1)):=map_put3 w5 #[] 0 1 _ (by rfl)
 have p2:(Instr.mapUpdate 174 (.map (some w5.heap.size)) (.int .i64 3) (.func (.func 73) #[.pointer (some ⟨A.x,0,none⟩)] #[])).run Tryz.prog (w5.alloc (.map #[{ key:=.int .i64 1,val:=.func (.func 72) #[.pointer (some ⟨A.x,0,none⟩)] #[],born:=0 }] 1)) = .ok () (w5.alloc (.map #[{ key:=.int .i64 1,val:=.func (.func 72) #[.pointer (some ⟨A.x,0,none⟩)] #[],born:=0 },{ key:=.int .i64 3,val:=.func (.func 73) #[.pointer (some ⟨A.x,0,none⟩)] #[],born:=1 }] 2)):=map_put3 w5 #[{ key:=.int .i64 1,val:=.func (.func 72) #[.pointer (some ⟨A.x,0,none⟩)] #[],born:=0 }] 1 3 _ (by rfl)
 have p3:(Instr.mapUpdate 174 (.map (some w5.heap.size)) (.int .i64 2) (.func (.func 74) #[.pointer (some ⟨A.x,0,none⟩)] #[])).run Tryz.prog (w5.alloc (.map #[{ key:=.int .i64 1,val:=.func (.func 72) #[.pointer (some ⟨A.x,0,none⟩)] #[],born:=0 },{ key:=.int .i64 3,val:=.func (.func 73) #[.pointer (some ⟨A.x,0,none⟩)] #[],born:=1 }] 2)) = .ok () (w5.alloc (.map #[{ key:=.int .i64 1,val:=.func (.func 72) #[.pointer (some ⟨A.x,0,none⟩)] #[],born:=0 },{ key:=.int .i64 3,val:=.func (.func 73) #[.pointer (some ⟨A.x,0,none⟩)] #[],born:=1 },{ key:=.int .i64 2,val:=.func (.func 74) #[.pointer (some ⟨A.x,0,none⟩)] #[],born:=2 }] 3)):=map_put3 w5 #[{ key:=.int .i64 1,val:=.func (.func 72) #[.pointer (some ⟨A.x,0,none⟩)] #[],born:=0 },{ key:=.int .i64 3,val:=.func (.func 73) #[.pointer (some ⟨A.x,0,none⟩)] #[],born:=1 }] 2 2 _ (by rfl)
 have p4:(Instr.mapUpdate 174 (.map (some w5.heap.size)) (.int .i64 4) (.func (.func 75) #[.pointer (some ⟨A.x,0,none⟩)] #[])).run Tryz.prog (w5.alloc (.map #[{ key:=.int .i64 1,val:=.func (.func 72) #[.pointer (some ⟨A.x,0,none⟩)] #[],born:=0 },{ key:=.int .i64 3,val:=.func (.func 73) #[.pointer (some ⟨A.x,0,none⟩)] #[],born:=1 },{ key:=.int .i64 2,val:=.func (.func 74) #[.pointer (some ⟨A.x,0,none⟩)] #[],born:=2 }] 3)) = .ok () (w5.alloc (.map #[{ key:=.int .i64 1,val:=.func (.func 72) #[.pointer (some ⟨A.x,0,none⟩)] #[],born:=0 },{ key:=.int .i64 3,val:=.func (.func 73) #[.pointer (some ⟨A.x,0,none⟩)] #[],born:=1 },{ key:=.int .i64 2,val:=.func (.func 74) #[.pointer (some ⟨A.x,0,none⟩)] #[],born:=2 },{ key:=.int .i64 4,val:=.func (.func 75) #[.pointer (some ⟨A.x,0,none⟩)] #[],born:=3 }] 4)):=map_put3 w5 #[{ key:=.int .i64 1,val:=.func (.func 72) #[.pointer (some ⟨A.x,0,none⟩)] #[],born:=0 },{ key:=.int .i64 3,val:=.func (.func 73) #[.pointer (some ⟨A.x,0,none⟩)] #[],born:=1 },{ key:=.int .i64 2,val:=.func (.func 74) #[.pointer (some ⟨A.x,0,none⟩)] #[],born:=2 }] 3 4 _ (by rfl)
 go_wp2_with fail
 rcases hwh with rfl | rfl | rfl | rfl | rfl
 ·skip
  have hlk:=map_none3 w5 #[{ key:=.int .i64 1,val:=.func (.func 72) #[.pointer (some ⟨A.x,0,none⟩)] #[],born:=0 },{ key:=.int .i64 3,val:=.func (.func 73) #[.pointer (some ⟨A.x,0,none⟩)] #[],born:=1 },{ key:=.int .i64 2,val:=.func (.func 74) #[.pointer (some ⟨A.x,0,none⟩)] #[],born:=2 },{ key:=.int .i64 4,val:=.func (.func 75) #[.pointer (some ⟨A.x,0,none⟩)] #[],born:=3 }] 4 0 (by rfl)
  obtain ⟨z1,z2,z3⟩:=HRZ.out rfl
  have HX6:=Lib.hid (z3 (HX5.out.below (bel_alloc (Below.refl w5.heap.size w5) (.map #[{ key:=.int .i64 1,val:=.func (.func 72) #[.pointer (some ⟨A.x,0,none⟩)] #[],born:=0 },{ key:=.int .i64 3,val:=.func (.func 73) #[.pointer (some ⟨A.x,0,none⟩)] #[],born:=1 },{ key:=.int .i64 2,val:=.func (.func 74) #[.pointer (some ⟨A.x,0,none⟩)] #[],born:=2 },{ key:=.int .i64 4,val:=.func (.func 75) #[.pointer (some ⟨A.x,0,none⟩)] #[],born:=3 }] 4))))
  go_wp2_with fail
  go_end0
  refine ⟨rfl,col,so,hm,?_,HR5.out.trans (XR.of_below (bel_alloc (Below.refl w5.heap.size w5) (.map #[{ key:=.int .i64 1,val:=.func (.func 72) #[.pointer (some ⟨A.x,0,none⟩)] #[],born:=0 },{ key:=.int .i64 3,val:=.func (.func 73) #[.pointer (some ⟨A.x,0,none⟩)] #[],born:=1 },{ key:=.int .i64 2,val:=.func (.func 74) #[.pointer (some ⟨A.x,0,none⟩)] #[],born:=2 },{ key:=.int .i64 4,val:=.func (.func 75) #[.pointer (some ⟨A.x,0,none⟩)] #[],born:=3 }] 4)))⟩
  rw [HEV.out,z1,z2]
  rw [show evStart tk s i J = [] by unfold evStart;rw [HB.out,HL.out];simp,List.nil_append];try simp only [List.append_nil]
  exact HX6.out
 ·skip
  have hlk:=map_get3 w5 #[{ key:=.int .i64 1,val:=.func (.func 72) #[.pointer (some ⟨A.x,0,none⟩)] #[],born:=0 },{ key:=.int .i64 3,val:=.func (.func 73) #[.pointer (some ⟨A.x,0,none⟩)] #[],born:=1 },{ key:=.int .i64 2,val:=.func (.func 74) #[.pointer (some ⟨A.x,0,none⟩)] #[],born:=2 },{ key:=.int .i64 4,val:=.func (.func 75) #[.pointer (some ⟨A.x,0,none⟩)] #[],born:=3 }] 4 1 (.func (.func 72) #[.pointer (some ⟨A.x,0,none⟩)] #[]) 0 (by rfl)
  have HD:=Lib.hid (HRS.out rfl (by omega) (by first | omega | (simp;omega)) (HX5.out.below (bel_alloc (Below.refl w5.heap.size w5) (.map #[{ key:=.int .i64 1,val:=.func (.func 72) #[.pointer (some ⟨A.x,0,none⟩)] #[],born:=0 },{ key:=.int .i64 3,val:=.func (.func 73) #[.pointer (some ⟨A.x,0,none⟩)] #[],born:=1 },{ key:=.int .i64 2,val:=.func (.func 74) #[.pointer (some ⟨A.x,0,none⟩)] #[],born:=2 },{ key:=.int .i64 4,val:=.func (.func 75) #[.pointer (some ⟨A.x,0,none⟩)] #[],born:=3 }] 4))) 72 (by simp))
  go_wp2_with fail
  rw [hlk]
  go_wp2_with fail
  refine HD.out.mono ?_
  rintro e w6 ⟨rfl,col6,so6,hm6,H6,R6⟩
  clear HD hlk
  go_wp2_with fail
  go_end0
  refine ⟨rfl,col6,so6,hm6,?_,(HR5.out.trans (XR.of_below (bel_alloc (Below.refl w5.heap.size w5) (.map #[{ key:=.int .i64 1,val:=.func (.func 72) #[.pointer (some ⟨A.x,0,none⟩)] #[],born:=0 },{ key:=.int .i64 3,val:=.func (.func 73) #[.pointer (some ⟨A.x,0,none⟩)] #[],born:=1 },{ key:=.int .i64 2,val:=.func (.func 74) #[.pointer (some ⟨A.x,0,none⟩)] #[],born:=2 },{ key:=.int .i64 4,val:=.func (.func 75) #[.pointer (some ⟨A.x,0,none⟩)] #[],born:=3 }] 4)))).trans R6⟩
  rw [HEV.out]
  rw [show evStart tk s i J = [] by unfold evStart;rw [HB.out,HL.out];simp,List.nil_append]
  exact H6
 ·skip
  have hlk:=map_get3 w5 #[{ key:=.int .i64 1,val:=.func (.func 72) #[.pointer (some ⟨A.x,0,none⟩)] #[],born:=0 },{ key:=.int .i64 3,val:=.func (.func 73) #[.pointer (some ⟨A.x,0,none⟩)] #[],born:=1 },{ key:=.int .i64 2,val:=.func (.func 74) #[.pointer (some ⟨A.x,0,none⟩)] #[],born:=2 },{ key:=.int .i64 4,val:=.func (.func 75) #[.pointer (some ⟨A.x,0,none⟩)] #[],born:=3 }] 4 2 (.func (.func 74) #[.pointer (some ⟨A.x,0,none⟩)] #[]) 2 (by rfl)
  have HD:=Lib.hid (HRS.out rfl (by omega) (by first | omega | (simp;omega)) (HX5.out.below (bel_alloc (Below.refl w5.heap.size w5) (.map #[{ key:=.int .i64 1,val:=.func (.func 72) #[.pointer (some ⟨A.x,0,none⟩)] #[],born:=0 },{ key:=.int .i64 3,val:=.func (.func 73) #[.pointer (some ⟨A.x,0,none⟩)] #[],born:=1 },{ key:=.int .i64 2,val:=.func (.func 74) #[.pointer (some ⟨A.x,0,none⟩)] #[],born:=2 },{ key:=.int .i64 4,val:=.func (.func 75) #[.pointer (some ⟨A.x,0,none⟩)] #[],born:=3 }] 4))) 74 (by simp))
  go_wp2_with fail
  rw [hlk]
  go_wp2_with fail
  refine HD.out.mono ?_
  rintro e w6 ⟨rfl,col6,so6,hm6,H6,R6⟩
  clear HD hlk
  go_wp2_with fail
  go_end0
  refine ⟨rfl,col6,so6,hm6,?_,(HR5.out.trans (XR.of_below (bel_alloc (Below.refl w5.heap.size w5) (.map #[{ key:=.int .i64 1,val:=.func (.func 72) #[.pointer (some ⟨A.x,0,none⟩)] #[],born:=0 },{ key:=.int .i64 3,val:=.func (.func 73) #[.pointer (some ⟨A.x,0,none⟩)] #[],born:=1 },{ key:=.int .i64 2,val:=.func (.func 74) #[.pointer (some ⟨A.x,0,none⟩)] #[],born:=2 },{ key:=.int .i64 4,val:=.func (.func 75) #[.pointer (some ⟨A.x,0,none⟩)] #[],born:=3 }] 4)))).trans R6⟩
  rw [HEV.out]
  rw [show evStart tk s i J = [] by unfold evStart;rw [HB.out,HL.out];simp,List.nil_append]
  exact H6
 ·skip
  have hlk:=map_get3 w5 #[{ key:=.int .i64 1,val:=.func (.func 72) #[.pointer (some ⟨A.x,0,none⟩)] #[],born:=0 },{ key:=.int .i64 3,val:=.func (.func 73) #[.pointer (some ⟨A.x,0,none⟩)] #[],born:=1 },{ key:=.int .i64 2,val:=.func (.func 74) #[.pointer (some ⟨A.x,0,none⟩)] #[],born:=2 },{ key:=.int .i64 4,val:=.func (.func 75) #[.pointer (some ⟨A.x,0,none⟩)] #[],born:=3 }] 4 3 (.func (.func 73) #[.pointer (some ⟨A.x,0,none⟩)] #[]) 1 (by rfl)
  have HD:=Lib.hid (HRS.out rfl (by omega) (by first | omega | (simp;omega)) (HX5.out.below (bel_alloc (Below.refl w5.heap.size w5) (.map #[{ key:=.int .i64 1,val:=.func (.func 72) #[.pointer (some ⟨A.x,0,none⟩)] #[],born:=0 },{ key:=.int .i64 3,val:=.func (.func 73) #[.pointer (some ⟨A.x,0,none⟩)] #[],born:=1 },{ key:=.int .i64 2,val:=.func (.func 74) #[.pointer (some ⟨A.x,0,none⟩)] #[],born:=2 },{ key:=.int .i64 4,val:=.func (.func 75) #[.pointer (some ⟨A.x,0,none⟩)] #[],born:=3 }] 4))) 73 (by simp))
  go_wp2_with fail
  rw [hlk]
  go_wp2_with fail
  refine HD.out.mono ?_
  rintro e w6 ⟨rfl,col6,so6,hm6,H6,R6⟩
  clear HD hlk
  go_wp2_with fail
  go_end0
  refine ⟨rfl,col6,so6,hm6,?_,(HR5.out.trans (XR.of_below (bel_alloc (Below.refl w5.heap.size w5) (.map #[{ key:=.int .i64 1,val:=.func (.func 72) #[.pointer (some ⟨A.x,0,none⟩)] #[],born:=0 },{ key:=.int .i64 3,val:=.func (.func 73) #[.pointer (some ⟨A.x,0,none⟩)] #[],born:=1 },{ key:=.int .i64 2,val:=.func (.func 74) #[.pointer (some ⟨A.x,0,none⟩)] #[],born:=2 },{ key:=.int .i64 4,val:=.func (.func 75) #[.pointer (some ⟨A.x,0,none⟩)] #[],born:=3 }] 4)))).trans R6⟩
  rw [HEV.out]
  rw [show evStart tk s i J = [] by unfold evStart;rw [HB.out,HL.out];simp,List.nil_append]
  exact H6
 ·skip
  have hlk:=map_get3 w5 #[{ key:=.int .i64 1,val:=.func (.func 72) #[.pointer (some ⟨A.x,0,none⟩)] #[],born:=0 },{ key:=.int .i64 3,val:=.func (.func 73) #[.pointer (some ⟨A.x,0,none⟩)] #[],born:=1 },{ key:=.int .i64 2,val:=.func (.func 74) #[.pointer (some ⟨A.x,0,none⟩)] #[],born:=2 },{ key:=.int .i64 4,val:=.func (.func 75) #[.pointer (some ⟨A.x,0,none⟩)] #[],born:=3 }] 4 4 (.func (.func 75) #[.pointer (some ⟨A.x,0,none⟩)] #[]) 3 (by rfl)
  have HD:=Lib.hid (HRS.out rfl (by omega) (by first | omega | (simp;omega)) (HX5.out.below (bel_alloc (Below.refl w5.heap.size w5) (.map #[{ key:=.int .i64 1,val:=.func (.func 72) #[.pointer (some ⟨A.x,0,none⟩)] #[],born:=0 },{ key:=.int .i64 3,val:=.func (.func 73) #[.pointer (some ⟨A.x,0,none⟩)] #[],born:=1 },{ key:=.int .i64 2,val:=.func (.func 74) #[.pointer (some ⟨A.x,0,none⟩)] #[],born:=2 },{ key:=.int .i64 4,val:=.func (.func 75) #[.pointer (some ⟨A.x,0,none⟩)] #[],born:=3 }] 4))) 75 (by simp))
  go_wp2_with fail
  rw [hlk]
  go_wp2_with fail
  refine HD.out.mono ?_
  rintro e w6 ⟨rfl,col6,so6,hm6,H6,R6⟩
  clear HD hlk
  go_wp2_with fail
  go_end0
  refine ⟨rfl,col6,so6,hm6,?_,(HR5.out.trans (XR.of_below (bel_alloc (Below.refl w5.heap.size w5) (.map #[{ key:=.int .i64 1,val:=.func (.func 72) #[.pointer (some ⟨A.x,0,none⟩)] #[],born:=0 },{ key:=.int .i64 3,val:=.func (.func 73) #[.pointer (some ⟨A.x,0,none⟩)] #[],born:=1 },{ key:=.int .i64 2,val:=.func (.func 74) #[.pointer (some ⟨A.x,0,none⟩)] #[],born:=2 },{ key:=.int .i64 4,val:=.func (.func 75) #[.pointer (some ⟨A.x,0,none⟩)] #[],born:=3 }] 4)))).trans R6⟩
  rw [HEV.out]
  rw [show evStart tk s i J = [] by unfold evStart;rw [HB.out,HL.out];simp,List.nil_append]
  exact H6
theorem run_again (h:XW B A bu n tk w s out Mx col F hm so jbk gs s.job) (i:Nat) (J:Jb) (hi:i < n) (hJ:s.job i = some J) (hit:Bool) (rest:List Q) (hh:hm = keyJ tk i J :: rest) (hb:J.begun = true) (hl:s.last ≠ (i:Int)) (ho:out.length ≤ 90000000) (hMx:Mx + 2 ≤ 1000000) :
  Calls Tryz.prog 41 #[.pointer (some ⟨A.x,0,none⟩),.bool hit] w fun e w'=>e = .returned (.tuple #[]) ∧
   ∃ col' so' hm',XW B A bu n tk w' (runS tk s i J hit).1 (out ++ (runS tk s i J hit).2) (Mx + 2) col' F hm' so' jbk gs (runS tk s i J hit).1.job ∧ XR col w col' w':=by
 obtain ⟨J',what,hst⟩:∃ J' what,jstep (tk i) J hit = (J',what):=⟨_,_,rfl⟩
 have hn16:=h.c.n16
 have hi0:(0:Int) ≤ (i:Int):=by omega
 have hiI:(i:Int) < (n:Int):=by omega
 have f5:=h.f.f5
 have HP:=Lib.hid (peek_m h.hp)
 rw [hh] at HP
 unfold peekM qv keyJ at HP
 simp only at HP
 have hjk:=h.jk i J hi hJ
 have hmx:=h.mx
 have HS:=Lib.hid fun W=>jstep_is (i:Int) (tk i) (h.ok i hi) J hjk.1 ⟨hjk.2.1,by omega⟩ (by omega) hit W
 rw [hst,jbv_eq,jbv_eq] at HS
 have hwh:=(jstep_laws (h.ok i hi) hjk.1 hit).2.2.2.2.2.2
 rw [hst] at hwh
 have HRS:Hid (∀ {W:World} {col2:Nat → Nat} {hm2:List Q} {so2:Value} {c:Int} {o:List Ev},what = c → c ≠ 0 → o.length ≤ 100000000 → XW B A bu n tk W { s with job:=upd s.job i (some J'),last:=(i:Int) } o (Mx + 1) col2 F hm2 so2 jbk gs s.job → ∀ fn,(c = 1 ∧ fn = 72 ∨ c = 2 ∧ fn = 74 ∨ c = 3 ∧ fn = 73 ∨ c = 4 ∧ fn = 75) →
   Calls Tryz.prog fn #[.pointer (some ⟨A.x,0,none⟩),.int .i64 i] W fun e w'=>e = .returned (.tuple #[]) ∧
   ∃ col' so' hm',XW B A bu n tk w' (runS tk s i J hit).1 (o ++ (runOut tk { s with job:=upd s.job i (some J'),last:=(i:Int) } i J' what).2) (Mx + 2) col' F hm' so' jbk gs (runS tk s i J hit).1.job ∧ XR col2 W col' w'):=fun {W} {col2} {hm2} {so2} {c} {o} hwc hc0 hlo hX fn hfn=>by
  subst hwc
  have e:(runS tk s i J hit).1 = (runOut tk { s with job:=upd s.job i (some J'),last:=(i:Int) } i J' what).1:=by
   show (runOut tk _ i (jstep (tk i) J hit).1 (jstep (tk i) J hit).2).1 = _
   rw [hst]
  rw [e]
  exact does_is hX i J' J hi (upd_self _ _ _) (by rw [upd_upd,upd_id _ _ _ hJ]) what fn hfn (fun hr=>step_stays (h.ok i hi) hjk hit hst rfl hr) hlo (by omega)
 have HEV:Hid ((runS tk s i J hit).2 = evStart tk s i J ++ (runOut tk { s with job:=upd s.job i (some J'),last:=(i:Int) } i J' what).2):=by
  show (evStart tk s i J ++ (runOut tk _ i (jstep (tk i) J hit).1 (jstep (tk i) J hit).2).2) = _
  rw [hst]
 have HRZ:Hid (what = 0 → (runS tk s i J hit).1 = { s with job:=upd s.job i (some J'),last:=(i:Int) } ∧ (runOut tk { s with job:=upd s.job i (some J'),last:=(i:Int) } i J' what).2 = []
   ∧ ∀ {W:World} {col2:Nat → Nat} {hm2:List Q} {so2:Value} {o:List Ev},XW B A bu n tk W { s with job:=upd s.job i (some J'),last:=(i:Int) } o (Mx + 1) col2 F hm2 so2 jbk gs s.job → XW B A bu n tk W { s with job:=upd s.job i (some J'),last:=(i:Int) } o (Mx + 2) col2 F hm2 so2 jbk gs (upd s.job i (some J'))):=fun hw0=>by
  subst hw0
  refine ⟨?_,rfl,fun hX=>?_⟩
  ·show (runOut tk _ i (jstep (tk i) J hit).1 (jstep (tk i) J hit).2).1 = _
   rw [hst];rfl
  ·obtain ⟨k1,k2⟩:=step_stays (Mx:=Mx) (s:=s) (h.ok i hi) hjk hit hst rfl rfl
   exact (hX.same hi hJ J' k1 (k2 (by omega))).mxle (Nat.le_succ _) (by omega)
 have H:=Lib.hid h
 have HJ:=Lib.hid hJ
 have HB:=Lib.hid hb
 have hlb:(s.last == (i:Int)) = false:=by simpa using hl
 have hxl:A.x < w.heap.size:=block_lt f5
 have HBN:Hid (∀ k,col k ≠ 0 → k < w.heap.size):=fun k hk=>(h.c.lt k hk).2
 clear h hh hJ hb hl hst hjk
 go_enter Tryz.func41,Tryz.ntmps41
 go_wp2_with (first | (go_at_call 70;refine HP.out.mono ?_;rintro e w1 ⟨rfl,hb1⟩;have H1:=Lib.hid (H.out.below hb1);obtain ⟨f3,f4,hrow,c6,hx1,hj1,hk1⟩:=run_zero H1.out hi HJ.out;rw [HB.out] at c6;have hbk:=bel_alloc (Below.refl w1.heap.size w1) (Obj.cells #[.int .i64 (bandJ (tk i) J),.int .i64 (tk i).Prio,.int .i64 J.rel,.int .i64 i] 166);have HT:=Lib.hid (tell_is (H1.out.below hbk) 4 i J (by omega) (by omega) hi HJ.out (by omega));have HR1:=Lib.hid ((XR.of_below (col:=col) hb1).trans (XR.of_below (col:=col) hbk));clear HP hb1 hbk H H1 hxl) | (go_at_call 69;refine HT.out.mono ?_;rintro e wt ⟨rfl,colt,sot,Ht,Rt⟩;have HRt:=Lib.hid (HR1.out.trans Rt);clear HT HR1 Rt f3 f4 hrow c6 hx1 hj1 hk1;have HTX:=Lib.hid Ht;clear Ht;obtain ⟨f3,f4,z4,hrow,c6,hxj,hxk,hx1,hj1,hk1,G2⟩:=run_oneN HTX.out hi HJ.out;rw [HB.out] at c6;have hrL:=G2.out.1) | (refine wpList_load_mid rfl 59 _ rfl (jbk i) 0 rfl (jbc i (tk i) J) _ hrL Tryz.underlying59 rfl Tryz.size59 ?_) | (go_at_call 71;refine Calls.mono (HS.out _) ?_;rintro e w3 ⟨rfl,hb3⟩;have G3:=run_two G2.out hb3;clear G2 hrL f3 f4 z4 hrow c6) | (refine wpList_store_mid rfl 59 _ _ rfl w3.heap.size 0 (jbc i (tk i) J').toArray rfl rfl (th_new w3 #[.int .i64 0,.int .i64 0,.int .i64 0,.int .i64 0,.bool false,.bool false,.bool false,.string ⟨#[]⟩,.int .i64 0,.int .i64 0,.int .i64 0,.int .i64 0,.int .i64 0,.int .i64 0,.int .i64 0,.int .i64 0,.int .i64 0,.int .i64 0,.int .i64 0,.int .i64 0,.int .i64 0,.bool false,.int .i64 0] 59 w3.heap.size 23 rfl (by simp)) Tryz.size59 (by simp [Value.oneCell',jbc]) ?_;try simp only [List.toList_toArray];have G4:=run_three G3.out (tk i) J' (i:Int) #[.int .i64 0,.int .i64 0,.int .i64 0,.int .i64 0,.bool false,.bool false,.bool false,.string ⟨#[]⟩,.int .i64 0,.int .i64 0,.int .i64 0,.int .i64 0,.int .i64 0,.int .i64 0,.int .i64 0,.int .i64 0,.int .i64 0,.int .i64 0,.int .i64 0,.int .i64 0,.int .i64 0,.bool false,.int .i64 0];generalize World.setCells (w3.alloc (.cells #[.int .i64 0,.int .i64 0,.int .i64 0,.int .i64 0,.bool false,.bool false,.bool false,.string ⟨#[]⟩,.int .i64 0,.int .i64 0,.int .i64 0,.int .i64 0,.int .i64 0,.int .i64 0,.int .i64 0,.int .i64 0,.int .i64 0,.int .i64 0,.int .i64 0,.int .i64 0,.int .i64 0,.bool false,.int .i64 0] 59)) w3.heap.size 0 (jbc i (tk i) J') = w4 at G4 ⊢;have hs3:=G3.out.2.fr.size;clear G3))
 have HBN2:Hid (∀ k,colt k ≠ 0 → k < wt.heap.size):=fun k hk=>(HTX.out.c.lt k hk).2
 obtain ⟨bN,hbN⟩:∃ b,b = w3.heap.size:=⟨_,rfl⟩
 rw [← hbN] at G4 ⊢
 have hcN:colt bN = 0:=by
  by_cases e:colt bN = 0
  ·exact e
  ·exact absurd (HBN2.out bN e) (by omega)
 have hNj:bN ≠ jbk i:=col_ne hcN (G4.out.2.1.c.j i J hi HJ.out) (by omega)
 have hbNl:bN < w4.heap.size:=block_lt (G4.out.1 0 _ rfl)
 have hth4:w4.drew.there (jbk i) 0 23:=G4.out.2.1.jb.th i J hi HJ.out
 have HQ:Hid (∀ w',Fr (fun q=>q = jbk i) w4 w' → w'.cell? ⟨A.x,3,none⟩ = some (.slice (some ⟨A.jb,0,none⟩) n A.jc) ∧ w'.cell? ⟨A.jb,i,none⟩ = some (.pointer (some ⟨jbk i,0,none⟩)) ∧ w'.rangeAt bN 0 (jbc i (tk i) J') ∧ Fr (fun q=>q = jbk i) w4 w'):=fun W hf=>by
  have cc:=G4.out.2.1.c
  have hcb:=cc.j i J hi HJ.out
  have hr:=G4.out.2.1.jb.row i hi
  rw [show ({ s with last:=(i:Int) }:St).job i = some J from HJ.out] at hr
  have f3:=G4.out.2.1.f.f3
  exact ⟨(hf.cell (p:=⟨A.x,3,none⟩) (block_lt f3) (col_ne cc.x hcb (by omega))).trans f3,(hf.cell (p:=⟨A.jb,i,none⟩) (block_lt hr) (col_ne cc.jb hcb (by omega))).trans hr,rg_fr hf hbNl hNj G4.out.1,hf⟩
 refine wp_region_held_drew (S:=(fun w'=>w'.cell? ⟨A.x,3,none⟩ = some (.slice (some ⟨A.jb,0,none⟩) n A.jc) ∧ w'.cell? ⟨A.jb,i,none⟩ = some (.pointer (some ⟨jbk i,0,none⟩)) ∧ w'.rangeAt bN 0 (jbc i (tk i) J') ∧ Fr (fun q=>q = jbk i) w4 w')) (by kernel_rfl) ?hS0t (fun hHeld=>?_)
 case hS0t=>(try dsimp only);exact HQ.out _ ((Fr.refl _ _).drew)
 refine wtk (i:=0) ?_
 try simp only [Act.put,List.setIfInBounds_toArray,List.set]
 refine wtk (i:=1) ?_
 try simp only [Act.put,List.setIfInBounds_toArray,List.set]
 refine wtk (i:=2) ?_
 try simp only [Act.put,List.setIfInBounds_toArray,List.set]
 refine wtk (i:=3) ?_
 try simp only [Act.put,List.setIfInBounds_toArray,List.set]
 refine wtk (i:=4) ?_
 try simp only [Act.put,List.setIfInBounds_toArray,List.set]
 refine wtk (i:=5) ?_
 try simp only [Act.put,List.setIfInBounds_toArray,List.set]
 refine wtk (i:=6) ?_
 try simp only [Act.put,List.setIfInBounds_toArray,List.set]
 refine wpAnyH_take (i := 7) (oi := { dst := some 77, op := Op.load 59 (Operand.tmp 7), type := 59, pos := "exec.go:184", after := #[], guard := none }) rfl (by kernel_rfl) (by kernel_rfl) (by kernel_rfl) (fun _ _ _ h => h) (yieldsIf_load_mid (by rfl) 59 _ rfl bN 0 rfl (jbc i (tk i) J') _ ?hSt8 Tryz.underlying59 rfl Tryz.size59) (by assumption) ?_
 case hSt8=>(intro wS hSw;(try dsimp only at hSw);exact hSw.2.2.1)
 try simp only [Act.put,List.setIfInBounds_toArray,List.set]
 refine wtk (i:=8) ?_
 try simp only [Act.put,List.setIfInBounds_toArray,List.set]
 refine wpAnyH_ready (rs:=[9]) (by kernel_rfl) (by simp) ?_
 refine arc (fun K hK=>?_) AllReadyH.nil
 rw [if_pos (by rfl)]
 refine wp_store_mid 59 _ _ rfl (jbk i) 0 _ rfl rfl hth4 Tryz.size59 (by simp [Value.oneCell',jbc]) ?_
 try simp only [Act.put,List.setIfInBounds_toArray,List.set]
 refine hK.out _ _ ?hSt10 (fun hHeld2=>?hrt10)
 case hSt10=>(try dsimp only);exact HQ.out _ (fr_setCells (S:=fun q=>q = jbk i) rfl _ _ _ hHeld.2.2.2)
 clear hK K hHeld
 have hHeld:=hHeld2
 clear hHeld2
 try simp only [Act.put,List.setIfInBounds_toArray,List.set]
 refine wpAnyH_done (by kernel_rfl) ?_ _
 have X4:=G4.out.2.1.keep (T:=fun _=>False) ((Fr.refl _ w4).drew) (fun _ h=>h.elim)
 have X5:=X4.setJob hi (show ({ s with last:=(i:Int) }:St).job i = some J from HJ.out) J'
 have R5:=(G4.out.2.2.trans (XR.of_fr (T:=fun _=>False) ((Fr.refl _ w4).drew) (fun _ h=>h.elim))).trans X5.2
 have HX5:=Lib.hid (X5.1.mxle (Nat.le_succ _) (by omega))
 have HR5:=Lib.hid R5
 clear X4 X5 R5 hHeld HQ G4 hth4
 generalize (w4.drew.setCells (jbk i) 0 (jbc i (tk i) J')) = w5 at HX5 HR5 ⊢
 have hmm:=@run_makeMap Tryz.prog
 have hmf:∀ (fn:Fn) (first cap:Array Value) (w:World),(Instr.makeFunc fn first cap).run Tryz.prog w = .ok (.func fn first cap) w:=fun _ _ _ _=>rfl
 have p1:(Instr.mapUpdate 174 (.map (some w5.heap.size)) (.int .i64 1) (.func (.func 72) #[.pointer (some ⟨A.x,0,none⟩)] #[])).run Tryz.prog (w5.alloc (.map #[] 0)) = .ok () (w5.alloc (.map #[{ key:=.int .i64 1,val:=.func (.func 72) #[.pointer (some ⟨A.x,0,none⟩)] #[],born:=0 }] 1)):=map_put3 w5 #[] 0 1 _ (by rfl)
 have p2:(Instr.mapUpdate 174 (.map (some w5.heap.size)) (.int .i64 3) (.func (.func 73) #[.pointer (some ⟨A.x,0,none⟩)] #[])).run Tryz.prog (w5.alloc (.map #[{ key:=.int .i64 1,val:=.func (.func 72) #[.pointer (some ⟨A.x,0,none⟩)] #[],born:=0 }] 1)) = .ok () (w5.alloc (.map #[{ key:=.int .i64 1,val:=.func (.func 72) #[.pointer (some ⟨A.x,0,none⟩)] #[],born:=0 },{ key:=.int .i64 3,val:=.func (.func 73) #[.pointer (some ⟨A.x,0,none⟩)] #[],born:=1 }] 2)):=map_put3 w5 #[{ key:=.int .i64 1,val:=.func (.func 72) #[.pointer (some ⟨A.x,0,none⟩)] #[],born:=0 }] 1 3 _ (by rfl)
 have p3:(Instr.mapUpdate 174 (.map (some w5.heap.size)) (.int .i64 2) (.func (.func 74) #[.pointer (some ⟨A.x,0,none⟩)] #[])).run Tryz.prog (w5.alloc (.map #[{ key:=.int .i64 1,val:=.func (.func 72) #[.pointer (some ⟨A.x,0,none⟩)] #[],born:=0 },{ key:=.int .i64 3,val:=.func (.func 73) #[.pointer (some ⟨A.x,0,none⟩)] #[],born:=1 }] 2)) = .ok () (w5.alloc (.map #[{ key:=.int .i64 1,val:=.func (.func 72) #[.pointer (some ⟨A.x,0,none⟩)] #[],born:=0 },{ key:=.int .i64 3,val:=.func (.func 73) #[.pointer (some ⟨A.x,0,none⟩)] #[],born:=1 },{ key:=.int .i64 2,val:=.func (.func 74) #[.pointer (some ⟨A.x,0,none⟩)] #[],born:=2 }] 3)):=map_put3 w5 #[{ key:=.int .i64 1,val:=.func (.func 72) #[.pointer (some ⟨A.x,0,none⟩)] #[],born:=0 },{ key:=.int .i64 3,val:=.func (.func 73) #[.pointer (some ⟨A.x,0,none⟩)] #[],born:=1 }] 2 2 _ (by rfl)
 have p4:(Instr.mapUpdate 174 (.map (some w5.heap.size)) (.int .i64 4) (.func (.func 75) #[.pointer (some ⟨A.x,0,none⟩)] #[])).run Tryz.prog (w5.alloc (.map #[{ key:=.int .i64 1,val:=.func (.func 72) #[.pointer (some ⟨A.x,0,none⟩)] #[],born:=0 },{ key:=.int .i64 3,val:=.func (.func 73) #[.pointer (some ⟨A.x,0,none⟩)] #[],born:=1 },{ key:=.int .i64 2,val:=.func (.func 74) #[.pointer (some ⟨A.x,0,none⟩)] #[],born:=2 }] 3)) = .ok () (w5.alloc (.map #[{ key:=.int .i64 1,val:=.func (.func 72) #[.pointer (some ⟨A.x,0,none⟩)] #[],born:=0 },{ key:=.int .i64 3,val:=.func (.func 73) #[.pointer (some ⟨A.x,0,none⟩)] #[],born:=1 },{ key:=.int .i64 2,val:=.func (.func 74) #[.pointer (some ⟨A.x,0,none⟩)] #[],born:=2 },{ key:=.int .i64 4,val:=.func (.func 75) #[.pointer (some ⟨A.x,0,none⟩)] #[],born:=3 }] 4)):=map_put3 w5 #[{ key:=.int .i64 1,val:=.func (.func 72) #[.pointer (some ⟨A.x,0,none⟩)] #[],born:=0 },{ key:=.int .i64 3,val:=.func (.func 73) #[.pointer (some ⟨A.x,0,none⟩)] #[],born:=1 },{ key:=.int .i64 2,val:=.func (.func 74) #[.pointer (some ⟨A.x,0,none⟩)] #[],born:=2 }] 3 4 _ (by rfl)
 go_wp2_with fail
 rcases hwh with rfl | rfl | rfl | rfl | rfl
 ·skip
  have hlk:=map_none3 w5 #[{ key:=.int .i64 1,val:=.func (.func 72) #[.pointer (some ⟨A.x,0,none⟩)] #[],born:=0 },{ key:=.int .i64 3,val:=.func (.func 73) #[.pointer (some ⟨A.x,0,none⟩)] #[],born:=1 },{ key:=.int .i64 2,val:=.func (.func 74) #[.pointer (some ⟨A.x,0,none⟩)] #[],born:=2 },{ key:=.int .i64 4,val:=.func (.func 75) #[.pointer (some ⟨A.x,0,none⟩)] #[],born:=3 }] 4 0 (by rfl)
  obtain ⟨z1,z2,z3⟩:=HRZ.out rfl
  have HX6:=Lib.hid (z3 (HX5.out.below (bel_alloc (Below.refl w5.heap.size w5) (.map #[{ key:=.int .i64 1,val:=.func (.func 72) #[.pointer (some ⟨A.x,0,none⟩)] #[],born:=0 },{ key:=.int .i64 3,val:=.func (.func 73) #[.pointer (some ⟨A.x,0,none⟩)] #[],born:=1 },{ key:=.int .i64 2,val:=.func (.func 74) #[.pointer (some ⟨A.x,0,none⟩)] #[],born:=2 },{ key:=.int .i64 4,val:=.func (.func 75) #[.pointer (some ⟨A.x,0,none⟩)] #[],born:=3 }] 4))))
  go_wp2_with fail
  go_end0
  refine ⟨rfl,colt,sot,hm,?_,HRt.out.trans (HR5.out.trans (XR.of_below (bel_alloc (Below.refl w5.heap.size w5) (.map #[{ key:=.int .i64 1,val:=.func (.func 72) #[.pointer (some ⟨A.x,0,none⟩)] #[],born:=0 },{ key:=.int .i64 3,val:=.func (.func 73) #[.pointer (some ⟨A.x,0,none⟩)] #[],born:=1 },{ key:=.int .i64 2,val:=.func (.func 74) #[.pointer (some ⟨A.x,0,none⟩)] #[],born:=2 },{ key:=.int .i64 4,val:=.func (.func 75) #[.pointer (some ⟨A.x,0,none⟩)] #[],born:=3 }] 4))))⟩
  rw [HEV.out,z1,z2]
  rw [show evStart tk s i J = [tell tk s 4 i J] by unfold evStart;rw [HB.out,if_neg (by simp),if_pos (by simpa using hlb)],← List.append_assoc];try simp only [List.append_nil]
  exact HX6.out
 ·skip
  have hlk:=map_get3 w5 #[{ key:=.int .i64 1,val:=.func (.func 72) #[.pointer (some ⟨A.x,0,none⟩)] #[],born:=0 },{ key:=.int .i64 3,val:=.func (.func 73) #[.pointer (some ⟨A.x,0,none⟩)] #[],born:=1 },{ key:=.int .i64 2,val:=.func (.func 74) #[.pointer (some ⟨A.x,0,none⟩)] #[],born:=2 },{ key:=.int .i64 4,val:=.func (.func 75) #[.pointer (some ⟨A.x,0,none⟩)] #[],born:=3 }] 4 1 (.func (.func 72) #[.pointer (some ⟨A.x,0,none⟩)] #[]) 0 (by rfl)
  have HD:=Lib.hid (HRS.out rfl (by omega) (by first | omega | (simp;omega)) (HX5.out.below (bel_alloc (Below.refl w5.heap.size w5) (.map #[{ key:=.int .i64 1,val:=.func (.func 72) #[.pointer (some ⟨A.x,0,none⟩)] #[],born:=0 },{ key:=.int .i64 3,val:=.func (.func 73) #[.pointer (some ⟨A.x,0,none⟩)] #[],born:=1 },{ key:=.int .i64 2,val:=.func (.func 74) #[.pointer (some ⟨A.x,0,none⟩)] #[],born:=2 },{ key:=.int .i64 4,val:=.func (.func 75) #[.pointer (some ⟨A.x,0,none⟩)] #[],born:=3 }] 4))) 72 (by simp))
  go_wp2_with fail
  rw [hlk]
  go_wp2_with fail
  refine HD.out.mono ?_
  rintro e w6 ⟨rfl,col6,so6,hm6,H6,R6⟩
  clear HD hlk
  go_wp2_with fail
  go_end0
  refine ⟨rfl,col6,so6,hm6,?_,HRt.out.trans ((HR5.out.trans (XR.of_below (bel_alloc (Below.refl w5.heap.size w5) (.map #[{ key:=.int .i64 1,val:=.func (.func 72) #[.pointer (some ⟨A.x,0,none⟩)] #[],born:=0 },{ key:=.int .i64 3,val:=.func (.func 73) #[.pointer (some ⟨A.x,0,none⟩)] #[],born:=1 },{ key:=.int .i64 2,val:=.func (.func 74) #[.pointer (some ⟨A.x,0,none⟩)] #[],born:=2 },{ key:=.int .i64 4,val:=.func (.func 75) #[.pointer (some ⟨A.x,0,none⟩)] #[],born:=3 }] 4)))).trans R6)⟩
  rw [HEV.out]
  rw [show evStart tk s i J = [tell tk s 4 i J] by unfold evStart;rw [HB.out,if_neg (by simp),if_pos (by simpa using hlb)],← List.append_assoc]
  exact H6
 ·skip
  have hlk:=map_get3 w5 #[{ key:=.int .i64 1,val:=.func (.func 72) #[.pointer (some ⟨A.x,0,none⟩)] #[],born:=0 },{ key:=.int .i64 3,val:=.func (.func 73) #[.pointer (some ⟨A.x,0,none⟩)] #[],born:=1 },{ key:=.int .i64 2,val:=.func (.func 74) #[.pointer (some ⟨A.x,0,none⟩)] #[],born:=2 },{ key:=.int .i64 4,val:=.func (.func 75) #[.pointer (some ⟨A.x,0,none⟩)] #[],born:=3 }] 4 2 (.func (.func 74) #[.pointer (some ⟨A.x,0,none⟩)] #[]) 2 (by rfl)
  have HD:=Lib.hid (HRS.out rfl (by omega) (by first | omega | (simp;omega)) (HX5.out.below (bel_alloc (Below.refl w5.heap.size w5) (.map #[{ key:=.int .i64 1,val:=.func (.func 72) #[.pointer (some ⟨A.x,0,none⟩)] #[],born:=0 },{ key:=.int .i64 3,val:=.func (.func 73) #[.pointer (some ⟨A.x,0,none⟩)] #[],born:=1 },{ key:=.int .i64 2,val:=.func (.func 74) #[.pointer (some ⟨A.x,0,none⟩)] #[],born:=2 },{ key:=.int .i64 4,val:=.func (.func 75) #[.pointer (some ⟨A.x,0,none⟩)] #[],born:=3 }] 4))) 74 (by simp))
  go_wp2_with fail
  rw [hlk]
  go_wp2_with fail
  refine HD.out.mono ?_
  rintro e w6 ⟨rfl,col6,so6,hm6,H6,R6⟩
  clear HD hlk
  go_wp2_with fail
  go_end0
  refine ⟨rfl,col6,so6,hm6,?_,HRt.out.trans ((HR5.out.trans (XR.of_below (bel_alloc (Below.refl w5.heap.size w5) (.map #[{ key:=.int .i64 1,val:=.func (.func 72) #[.pointer (some ⟨A.x,0,none⟩)] #[],born:=0 },{ key:=.int .i64 3,val:=.func (.func 73) #[.pointer (some ⟨A.x,0,none⟩)] #[],born:=1 },{ key:=.int .i64 2,val:=.func (.func 74) #[.pointer (some ⟨A.x,0,none⟩)] #[],born:=2 },{ key:=.int .i64 4,val:=.func (.func 75) #[.pointer (some ⟨A.x,0,none⟩)] #[],born:=3 }] 4)))).trans R6)⟩
  rw [HEV.out]
  rw [show evStart tk s i J = [tell tk s 4 i J] by unfold evStart;rw [HB.out,if_neg (by simp),if_pos (by simpa using hlb)],← List.append_assoc]
  exact H6
 ·skip
  have hlk:=map_get3 w5 #[{ key:=.int .i64 1,val:=.func (.func 72) #[.pointer (some ⟨A.x,0,none⟩)] #[],born:=0 },{ key:=.int .i64 3,val:=.func (.func 73) #[.pointer (some ⟨A.x,0,none⟩)] #[],born:=1 },{ key:=.int .i64 2,val:=.func (.func 74) #[.pointer (some ⟨A.x,0,none⟩)] #[],born:=2 },{ key:=.int .i64 4,val:=.func (.func 75) #[.pointer (some ⟨A.x,0,none⟩)] #[],born:=3 }] 4 3 (.func (.func 73) #[.pointer (some ⟨A.x,0,none⟩)] #[]) 1 (by rfl)
  have HD:=Lib.hid (HRS.out rfl (by omega) (by first | omega | (simp;omega)) (HX5.out.below (bel_alloc (Below.refl w5.heap.size w5) (.map #[{ key:=.int .i64 1,val:=.func (.func 72) #[.pointer (some ⟨A.x,0,none⟩)] #[],born:=0 },{ key:=.int .i64 3,val:=.func (.func 73) #[.pointer (some ⟨A.x,0,none⟩)] #[],born:=1 },{ key:=.int .i64 2,val:=.func (.func 74) #[.pointer (some ⟨A.x,0,none⟩)] #[],born:=2 },{ key:=.int .i64 4,val:=.func (.func 75) #[.pointer (some ⟨A.x,0,none⟩)] #[],born:=3 }] 4))) 73 (by simp))
  go_wp2_with fail
  rw [hlk]
  go_wp2_with fail
  refine HD.out.mono ?_
  rintro e w6 ⟨rfl,col6,so6,hm6,H6,R6⟩
  clear HD hlk
  go_wp2_with fail
  go_end0
  refine ⟨rfl,col6,so6,hm6,?_,HRt.out.trans ((HR5.out.trans (XR.of_below (bel_alloc (Below.refl w5.heap.size w5) (.map #[{ key:=.int .i64 1,val:=.func (.func 72) #[.pointer (some ⟨A.x,0,none⟩)] #[],born:=0 },{ key:=.int .i64 3,val:=.func (.func 73) #[.pointer (some ⟨A.x,0,none⟩)] #[],born:=1 },{ key:=.int .i64 2,val:=.func (.func 74) #[.pointer (some ⟨A.x,0,none⟩)] #[],born:=2 },{ key:=.int .i64 4,val:=.func (.func 75) #[.pointer (some ⟨A.x,0,none⟩)] #[],born:=3 }] 4)))).trans R6)⟩
  rw [HEV.out]
  rw [show evStart tk s i J = [tell tk s 4 i J] by unfold evStart;rw [HB.out,if_neg (by simp),if_pos (by simpa using hlb)],← List.append_assoc]
  exact H6
 ·skip
  have hlk:=map_get3 w5 #[{ key:=.int .i64 1,val:=.func (.func 72) #[.pointer (some ⟨A.x,0,none⟩)] #[],born:=0 },{ key:=.int .i64 3,val:=.func (.func 73) #[.pointer (some ⟨A.x,0,none⟩)] #[],born:=1 },{ key:=.int .i64 2,val:=.func (.func 74) #[.pointer (some ⟨A.x,0,none⟩)] #[],born:=2 },{ key:=.int .i64 4,val:=.func (.func 75) #[.pointer (some ⟨A.x,0,none⟩)] #[],born:=3 }] 4 4 (.func (.func 75) #[.pointer (some ⟨A.x,0,none⟩)] #[]) 3 (by rfl)
  have HD:=Lib.hid (HRS.out rfl (by omega) (by first | omega | (simp;omega)) (HX5.out.below (bel_alloc (Below.refl w5.heap.size w5) (.map #[{ key:=.int .i64 1,val:=.func (.func 72) #[.pointer (some ⟨A.x,0,none⟩)] #[],born:=0 },{ key:=.int .i64 3,val:=.func (.func 73) #[.pointer (some ⟨A.x,0,none⟩)] #[],born:=1 },{ key:=.int .i64 2,val:=.func (.func 74) #[.pointer (some ⟨A.x,0,none⟩)] #[],born:=2 },{ key:=.int .i64 4,val:=.func (.func 75) #[.pointer (some ⟨A.x,0,none⟩)] #[],born:=3 }] 4))) 75 (by simp))
  go_wp2_with fail
  rw [hlk]
  go_wp2_with fail
  refine HD.out.mono ?_
  rintro e w6 ⟨rfl,col6,so6,hm6,H6,R6⟩
  clear HD hlk
  go_wp2_with fail
  go_end0
  refine ⟨rfl,col6,so6,hm6,?_,HRt.out.trans ((HR5.out.trans (XR.of_below (bel_alloc (Below.refl w5.heap.size w5) (.map #[{ key:=.int .i64 1,val:=.func (.func 72) #[.pointer (some ⟨A.x,0,none⟩)] #[],born:=0 },{ key:=.int .i64 3,val:=.func (.func 73) #[.pointer (some ⟨A.x,0,none⟩)] #[],born:=1 },{ key:=.int .i64 2,val:=.func (.func 74) #[.pointer (some ⟨A.x,0,none⟩)] #[],born:=2 },{ key:=.int .i64 4,val:=.func (.func 75) #[.pointer (some ⟨A.x,0,none⟩)] #[],born:=3 }] 4)))).trans R6)⟩
  rw [HEV.out]
  rw [show evStart tk s i J = [tell tk s 4 i J] by unfold evStart;rw [HB.out,if_neg (by simp),if_pos (by simpa using hlb)],← List.append_assoc]
  exact H6
theorem run_first (h:XW B A bu n tk w s out Mx col F hm so jbk gs s.job) (i:Nat) (J:Jb) (hi:i < n) (hJ:s.job i = some J) (hit:Bool) (rest:List Q) (hh:hm = keyJ tk i J :: rest) (hb:J.begun = false) (ho:out.length ≤ 90000000) (hMx:Mx + 2 ≤ 1000000) :
  Calls Tryz.prog 41 #[.pointer (some ⟨A.x,0,none⟩),.bool hit] w fun e w'=>e = .returned (.tuple #[]) ∧
   ∃ col' so' hm',XW B A bu n tk w' (runS tk s i J hit).1 (out ++ (runS tk s i J hit).2) (Mx + 2) col' F hm' so' jbk gs (runS tk s i J hit).1.job ∧ XR col w col' w':=by
 obtain ⟨J',what,hst⟩:∃ J' what,jstep (tk i) J hit = (J',what):=⟨_,_,rfl⟩
 have hn16:=h.c.n16
 have hi0:(0:Int) ≤ (i:Int):=by omega
 have hiI:(i:Int) < (n:Int):=by omega
 have f5:=h.f.f5
 have HP:=Lib.hid (peek_m h.hp)
 rw [hh] at HP
 unfold peekM qv keyJ at HP
 simp only at HP
 have hjk:=h.jk i J hi hJ
 have hmx:=h.mx
 have HS:=Lib.hid fun W=>jstep_is (i:Int) (tk i) (h.ok i hi) J hjk.1 ⟨hjk.2.1,by omega⟩ (by omega) hit W
 rw [hst,jbv_eq,jbv_eq] at HS
 have hwh:=(jstep_laws (h.ok i hi) hjk.1 hit).2.2.2.2.2.2
 rw [hst] at hwh
 have HRS:Hid (∀ {W:World} {col2:Nat → Nat} {hm2:List Q} {so2:Value} {c:Int} {o:List Ev},what = c → c ≠ 0 → o.length ≤ 100000000 → XW B A bu n tk W { s with job:=upd s.job i (some J'),last:=(i:Int) } o (Mx + 1) col2 F hm2 so2 jbk gs s.job → ∀ fn,(c = 1 ∧ fn = 72 ∨ c = 2 ∧ fn = 74 ∨ c = 3 ∧ fn = 73 ∨ c = 4 ∧ fn = 75) →
   Calls Tryz.prog fn #[.pointer (some ⟨A.x,0,none⟩),.int .i64 i] W fun e w'=>e = .returned (.tuple #[]) ∧
   ∃ col' so' hm',XW B A bu n tk w' (runS tk s i J hit).1 (o ++ (runOut tk { s with job:=upd s.job i (some J'),last:=(i:Int) } i J' what).2) (Mx + 2) col' F hm' so' jbk gs (runS tk s i J hit).1.job ∧ XR col2 W col' w'):=fun {W} {col2} {hm2} {so2} {c} {o} hwc hc0 hlo hX fn hfn=>by
  subst hwc
  have e:(runS tk s i J hit).1 = (runOut tk { s with job:=upd s.job i (some J'),last:=(i:Int) } i J' what).1:=by
   show (runOut tk _ i (jstep (tk i) J hit).1 (jstep (tk i) J hit).2).1 = _
   rw [hst]
  rw [e]
  exact does_is hX i J' J hi (upd_self _ _ _) (by rw [upd_upd,upd_id _ _ _ hJ]) what fn hfn (fun hr=>step_stays (h.ok i hi) hjk hit hst rfl hr) hlo (by omega)
 have HEV:Hid ((runS tk s i J hit).2 = evStart tk s i J ++ (runOut tk { s with job:=upd s.job i (some J'),last:=(i:Int) } i J' what).2):=by
  show (evStart tk s i J ++ (runOut tk _ i (jstep (tk i) J hit).1 (jstep (tk i) J hit).2).2) = _
  rw [hst]
 have HRZ:Hid (what = 0 → (runS tk s i J hit).1 = { s with job:=upd s.job i (some J'),last:=(i:Int) } ∧ (runOut tk { s with job:=upd s.job i (some J'),last:=(i:Int) } i J' what).2 = []
   ∧ ∀ {W:World} {col2:Nat → Nat} {hm2:List Q} {so2:Value} {o:List Ev},XW B A bu n tk W { s with job:=upd s.job i (some J'),last:=(i:Int) } o (Mx + 1) col2 F hm2 so2 jbk gs s.job → XW B A bu n tk W { s with job:=upd s.job i (some J'),last:=(i:Int) } o (Mx + 2) col2 F hm2 so2 jbk gs (upd s.job i (some J'))):=fun hw0=>by
  subst hw0
  refine ⟨?_,rfl,fun hX=>?_⟩
  ·show (runOut tk _ i (jstep (tk i) J hit).1 (jstep (tk i) J hit).2).1 = _
   rw [hst];rfl
  ·obtain ⟨k1,k2⟩:=step_stays (Mx:=Mx) (s:=s) (h.ok i hi) hjk hit hst rfl rfl
   exact (hX.same hi hJ J' k1 (k2 (by omega))).mxle (Nat.le_succ _) (by omega)
 have H:=Lib.hid h
 have HJ:=Lib.hid hJ
 have HB:=Lib.hid hb
 have hxl:A.x < w.heap.size:=block_lt f5
 have HBN:Hid (∀ k,col k ≠ 0 → k < w.heap.size):=fun k hk=>(h.c.lt k hk).2
 clear h hh hJ hb  hst hjk
 go_enter Tryz.func41,Tryz.ntmps41
 go_wp2_with (first | (go_at_call 70;refine HP.out.mono ?_;rintro e w1 ⟨rfl,hb1⟩;have H1:=Lib.hid (H.out.below hb1);obtain ⟨f3,f4,hrow,c6,hx1,hj1,hk1⟩:=run_zero H1.out hi HJ.out;rw [HB.out] at c6;have hbk:=bel_alloc (Below.refl w1.heap.size w1) (Obj.cells #[.int .i64 (bandJ (tk i) J),.int .i64 (tk i).Prio,.int .i64 J.rel,.int .i64 i] 166);have HT:=Lib.hid (tell_is (H1.out.below hbk) 3 i J (by omega) (by omega) hi HJ.out (by omega));have HR1:=Lib.hid ((XR.of_below (col:=col) hb1).trans (XR.of_below (col:=col) hbk));clear HP hb1 hbk H H1 hxl) | (go_at_call 69;refine HT.out.mono ?_;rintro e wt ⟨rfl,colt,sot,Ht,Rt⟩;have HRt:=Lib.hid (HR1.out.trans Rt);clear HT HR1 Rt f3 f4 hrow c6 hx1 hj1 hk1;have HTX:=Lib.hid Ht;clear Ht;obtain ⟨f3,f4,z4,hrow,c6,hxj,hxk,hx1,hj1,hk1,G2⟩:=run_oneN HTX.out hi HJ.out;rw [HB.out] at c6;have hrL:=G2.out.1) | (refine wpList_load_mid rfl 59 _ rfl (jbk i) 0 rfl (jbc i (tk i) J) _ hrL Tryz.underlying59 rfl Tryz.size59 ?_) | (go_at_call 71;refine Calls.mono (HS.out _) ?_;rintro e w3 ⟨rfl,hb3⟩;have G3:=run_two G2.out hb3;clear G2 hrL f3 f4 z4 hrow c6) | (refine wpList_store_mid rfl 59 _ _ rfl w3.heap.size 0 (jbc i (tk i) J').toArray rfl rfl (th_new w3 #[.int .i64 0,.int .i64 0,.int .i64 0,.int .i64 0,.bool false,.bool false,.bool false,.string ⟨#[]⟩,.int .i64 0,.int .i64 0,.int .i64 0,.int .i64 0,.int .i64 0,.int .i64 0,.int .i64 0,.int .i64 0,.int .i64 0,.int .i64 0,.int .i64 0,.int .i64 0,.int .i64 0,.bool false,.int .i64 0] 59 w3.heap.size 23 rfl (by simp)) Tryz.size59 (by simp [Value.oneCell',jbc]) ?_;try simp only [List.toList_toArray];have G4:=run_three G3.out (tk i) J' (i:Int) #[.int .i64 0,.int .i64 0,.int .i64 0,.int .i64 0,.bool false,.bool false,.bool false,.string ⟨#[]⟩,.int .i64 0,.int .i64 0,.int .i64 0,.int .i64 0,.int .i64 0,.int .i64 0,.int .i64 0,.int .i64 0,.int .i64 0,.int .i64 0,.int .i64 0,.int .i64 0,.int .i64 0,.bool false,.int .i64 0];generalize World.setCells (w3.alloc (.cells #[.int .i64 0,.int .i64 0,.int .i64 0,.int .i64 0,.bool false,.bool false,.bool false,.string ⟨#[]⟩,.int .i64 0,.int .i64 0,.int .i64 0,.int .i64 0,.int .i64 0,.int .i64 0,.int .i64 0,.int .i64 0,.int .i64 0,.int .i64 0,.int .i64 0,.int .i64 0,.int .i64 0,.bool false,.int .i64 0] 59)) w3.heap.size 0 (jbc i (tk i) J') = w4 at G4 ⊢;have hs3:=G3.out.2.fr.size;clear G3))
 have HBN2:Hid (∀ k,colt k ≠ 0 → k < wt.heap.size):=fun k hk=>(HTX.out.c.lt k hk).2
 obtain ⟨bN,hbN⟩:∃ b,b = w3.heap.size:=⟨_,rfl⟩
 rw [← hbN] at G4 ⊢
 have hcN:colt bN = 0:=by
  by_cases e:colt bN = 0
  ·exact e
  ·exact absurd (HBN2.out bN e) (by omega)
 have hNj:bN ≠ jbk i:=col_ne hcN (G4.out.2.1.c.j i J hi HJ.out) (by omega)
 have hbNl:bN < w4.heap.size:=block_lt (G4.out.1 0 _ rfl)
 have hth4:w4.drew.there (jbk i) 0 23:=G4.out.2.1.jb.th i J hi HJ.out
 have HQ:Hid (∀ w',Fr (fun q=>q = jbk i) w4 w' → w'.cell? ⟨A.x,3,none⟩ = some (.slice (some ⟨A.jb,0,none⟩) n A.jc) ∧ w'.cell? ⟨A.jb,i,none⟩ = some (.pointer (some ⟨jbk i,0,none⟩)) ∧ w'.rangeAt bN 0 (jbc i (tk i) J') ∧ Fr (fun q=>q = jbk i) w4 w'):=fun W hf=>by
  have cc:=G4.out.2.1.c
  have hcb:=cc.j i J hi HJ.out
  have hr:=G4.out.2.1.jb.row i hi
  rw [show ({ s with last:=(i:Int) }:St).job i = some J from HJ.out] at hr
  have f3:=G4.out.2.1.f.f3
  exact ⟨(hf.cell (p:=⟨A.x,3,none⟩) (block_lt f3) (col_ne cc.x hcb (by omega))).trans f3,(hf.cell (p:=⟨A.jb,i,none⟩) (block_lt hr) (col_ne cc.jb hcb (by omega))).trans hr,rg_fr hf hbNl hNj G4.out.1,hf⟩
 refine wp_region_held_drew (S:=(fun w'=>w'.cell? ⟨A.x,3,none⟩ = some (.slice (some ⟨A.jb,0,none⟩) n A.jc) ∧ w'.cell? ⟨A.jb,i,none⟩ = some (.pointer (some ⟨jbk i,0,none⟩)) ∧ w'.rangeAt bN 0 (jbc i (tk i) J') ∧ Fr (fun q=>q = jbk i) w4 w')) (by kernel_rfl) ?hS0t (fun hHeld=>?_)
 case hS0t=>(try dsimp only);exact HQ.out _ ((Fr.refl _ _).drew)
 refine wtk (i:=0) ?_
 try simp only [Act.put,List.setIfInBounds_toArray,List.set]
 refine wtk (i:=1) ?_
 try simp only [Act.put,List.setIfInBounds_toArray,List.set]
 refine wtk (i:=2) ?_
 try simp only [Act.put,List.setIfInBounds_toArray,List.set]
 refine wtk (i:=3) ?_
 try simp only [Act.put,List.setIfInBounds_toArray,List.set]
 refine wtk (i:=4) ?_
 try simp only [Act.put,List.setIfInBounds_toArray,List.set]
 refine wtk (i:=5) ?_
 try simp only [Act.put,List.setIfInBounds_toArray,List.set]
 refine wtk (i:=6) ?_
 try simp only [Act.put,List.setIfInBounds_toArray,List.set]
 refine wpAnyH_take (i := 7) (oi := { dst := some 77, op := Op.load 59 (Operand.tmp 7), type := 59, pos := "exec.go:184", after := #[], guard := none }) rfl (by kernel_rfl) (by kernel_rfl) (by kernel_rfl) (fun _ _ _ h => h) (yieldsIf_load_mid (by rfl) 59 _ rfl bN 0 rfl (jbc i (tk i) J') _ ?hSt8 Tryz.underlying59 rfl Tryz.size59) (by assumption) ?_
 case hSt8=>(intro wS hSw;(try dsimp only at hSw);exact hSw.2.2.1)
 try simp only [Act.put,List.setIfInBounds_toArray,List.set]
 refine wtk (i:=8) ?_
 try simp only [Act.put,List.setIfInBounds_toArray,List.set]
 refine wpAnyH_ready (rs:=[9]) (by kernel_rfl) (by simp) ?_
 refine arc (fun K hK=>?_) AllReadyH.nil
 rw [if_pos (by rfl)]
 refine wp_store_mid 59 _ _ rfl (jbk i) 0 _ rfl rfl hth4 Tryz.size59 (by simp [Value.oneCell',jbc]) ?_
 try simp only [Act.put,List.setIfInBounds_toArray,List.set]
 refine hK.out _ _ ?hSt10 (fun hHeld2=>?hrt10)
 case hSt10=>(try dsimp only);exact HQ.out _ (fr_setCells (S:=fun q=>q = jbk i) rfl _ _ _ hHeld.2.2.2)
 clear hK K hHeld
 have hHeld:=hHeld2
 clear hHeld2
 try simp only [Act.put,List.setIfInBounds_toArray,List.set]
 refine wpAnyH_done (by kernel_rfl) ?_ _
 have X4:=G4.out.2.1.keep (T:=fun _=>False) ((Fr.refl _ w4).drew) (fun _ h=>h.elim)
 have X5:=X4.setJob hi (show ({ s with last:=(i:Int) }:St).job i = some J from HJ.out) J'
 have R5:=(G4.out.2.2.trans (XR.of_fr (T:=fun _=>False) ((Fr.refl _ w4).drew) (fun _ h=>h.elim))).trans X5.2
 have HX5:=Lib.hid (X5.1.mxle (Nat.le_succ _) (by omega))
 have HR5:=Lib.hid R5
 clear X4 X5 R5 hHeld HQ G4 hth4
 generalize (w4.drew.setCells (jbk i) 0 (jbc i (tk i) J')) = w5 at HX5 HR5 ⊢
 have hmm:=@run_makeMap Tryz.prog
 have hmf:∀ (fn:Fn) (first cap:Array Value) (w:World),(Instr.makeFunc fn first cap).run Tryz.prog w = .ok (.func fn first cap) w:=fun _ _ _ _=>rfl
 have p1:(Instr.mapUpdate 174 (.map (some w5.heap.size)) (.int .i64 1) (.func (.func 72) #[.pointer (some ⟨A.x,0,none⟩)] #[])).run Tryz.prog (w5.alloc (.map #[] 0)) = .ok () (w5.alloc (.map #[{ key:=.int .i64 1,val:=.func (.func 72) #[.pointer (some ⟨A.x,0,none⟩)] #[],born:=0 }] 1)):=map_put3 w5 #[] 0 1 _ (by rfl)
 have p2:(Instr.mapUpdate 174 (.map (some w5.heap.size)) (.int .i64 3) (.func (.func 73) #[.pointer (some ⟨A.x,0,none⟩)] #[])).run Tryz.prog (w5.alloc (.map #[{ key:=.int .i64 1,val:=.func (.func 72) #[.pointer (some ⟨A.x,0,none⟩)] #[],born:=0 }] 1)) = .ok () (w5.alloc (.map #[{ key:=.int .i64 1,val:=.func (.func 72) #[.pointer (some ⟨A.x,0,none⟩)] #[],born:=0 },{ key:=.int .i64 3,val:=.func (.func 73) #[.pointer (some ⟨A.x,0,none⟩)] #[],born:=1 }] 2)):=map_put3 w5 #[{ key:=.int .i64 1,val:=.func (.func 72) #[.pointer (some ⟨A.x,0,none⟩)] #[],born:=0 }] 1 3 _ (by rfl)
 have p3:(Instr.mapUpdate 174 (.map (some w5.heap.size)) (.int .i64 2) (.func (.func 74) #[.pointer (some ⟨A.x,0,none⟩)] #[])).run Tryz.prog (w5.alloc (.map #[{ key:=.int .i64 1,val:=.func (.func 72) #[.pointer (some ⟨A.x,0,none⟩)] #[],born:=0 },{ key:=.int .i64 3,val:=.func (.func 73) #[.pointer (some ⟨A.x,0,none⟩)] #[],born:=1 }] 2)) = .ok () (w5.alloc (.map #[{ key:=.int .i64 1,val:=.func (.func 72) #[.pointer (some ⟨A.x,0,none⟩)] #[],born:=0 },{ key:=.int .i64 3,val:=.func (.func 73) #[.pointer (some ⟨A.x,0,none⟩)] #[],born:=1 },{ key:=.int .i64 2,val:=.func (.func 74) #[.pointer (some ⟨A.x,0,none⟩)] #[],born:=2 }] 3)):=map_put3 w5 #[{ key:=.int .i64 1,val:=.func (.func 72) #[.pointer (some ⟨A.x,0,none⟩)] #[],born:=0 },{ key:=.int .i64 3,val:=.func (.func 73) #[.pointer (some ⟨A.x,0,none⟩)] #[],born:=1 }] 2 2 _ (by rfl)
 have p4:(Instr.mapUpdate 174 (.map (some w5.heap.size)) (.int .i64 4) (.func (.func 75) #[.pointer (some ⟨A.x,0,none⟩)] #[])).run Tryz.prog (w5.alloc (.map #[{ key:=.int .i64 1,val:=.func (.func 72) #[.pointer (some ⟨A.x,0,none⟩)] #[],born:=0 },{ key:=.int .i64 3,val:=.func (.func 73) #[.pointer (some ⟨A.x,0,none⟩)] #[],born:=1 },{ key:=.int .i64 2,val:=.func (.func 74) #[.pointer (some ⟨A.x,0,none⟩)] #[],born:=2 }] 3)) = .ok () (w5.alloc (.map #[{ key:=.int .i64 1,val:=.func (.func 72) #[.pointer (some ⟨A.x,0,none⟩)] #[],born:=0 },{ key:=.int .i64 3,val:=.func (.func 73) #[.pointer (some ⟨A.x,0,none⟩)] #[],born:=1 },{ key:=.int .i64 2,val:=.func (.func 74) #[.pointer (some ⟨A.x,0,none⟩)] #[],born:=2 },{ key:=.int .i64 4,val:=.func (.func 75) #[.pointer (some ⟨A.x,0,none⟩)] #[],born:=3 }] 4)):=map_put3 w5 #[{ key:=.int .i64 1,val:=.func (.func 72) #[.pointer (some ⟨A.x,0,none⟩)] #[],born:=0 },{ key:=.int .i64 3,val:=.func (.func 73) #[.pointer (some ⟨A.x,0,none⟩)] #[],born:=1 },{ key:=.int .i64 2,val:=.func (.func 74) #[.pointer (some ⟨A.x,0,none⟩)] #[],born:=2 }] 3 4 _ (by rfl)
 go_wp2_with fail
 rcases hwh with rfl | rfl | rfl | rfl | rfl
 ·skip
  have hlk:=map_none3 w5 #[{ key:=.int .i64 1,val:=.func (.func 72) #[.pointer (some ⟨A.x,0,none⟩)] #[],born:=0 },{ key:=.int .i64 3,val:=.func (.func 73) #[.pointer (some ⟨A.x,0,none⟩)] #[],born:=1 },{ key:=.int .i64 2,val:=.func (.func 74) #[.pointer (some ⟨A.x,0,none⟩)] #[],born:=2 },{ key:=.int .i64 4,val:=.func (.func 75) #[.pointer (some ⟨A.x,0,none⟩)] #[],born:=3 }] 4 0 (by rfl)
  obtain ⟨z1,z2,z3⟩:=HRZ.out rfl
  have HX6:=Lib.hid (z3 (HX5.out.below (bel_alloc (Below.refl w5.heap.size w5) (.map #[{ key:=.int .i64 1,val:=.func (.func 72) #[.pointer (some ⟨A.x,0,none⟩)] #[],born:=0 },{ key:=.int .i64 3,val:=.func (.func 73) #[.pointer (some ⟨A.x,0,none⟩)] #[],born:=1 },{ key:=.int .i64 2,val:=.func (.func 74) #[.pointer (some ⟨A.x,0,none⟩)] #[],born:=2 },{ key:=.int .i64 4,val:=.func (.func 75) #[.pointer (some ⟨A.x,0,none⟩)] #[],born:=3 }] 4))))
  go_wp2_with fail
  go_end0
  refine ⟨rfl,colt,sot,hm,?_,HRt.out.trans (HR5.out.trans (XR.of_below (bel_alloc (Below.refl w5.heap.size w5) (.map #[{ key:=.int .i64 1,val:=.func (.func 72) #[.pointer (some ⟨A.x,0,none⟩)] #[],born:=0 },{ key:=.int .i64 3,val:=.func (.func 73) #[.pointer (some ⟨A.x,0,none⟩)] #[],born:=1 },{ key:=.int .i64 2,val:=.func (.func 74) #[.pointer (some ⟨A.x,0,none⟩)] #[],born:=2 },{ key:=.int .i64 4,val:=.func (.func 75) #[.pointer (some ⟨A.x,0,none⟩)] #[],born:=3 }] 4))))⟩
  rw [HEV.out,z1,z2]
  rw [show evStart tk s i J = [tell tk s 3 i J] by unfold evStart;rw [HB.out];simp,← List.append_assoc];try simp only [List.append_nil]
  exact HX6.out
 ·skip
  have hlk:=map_get3 w5 #[{ key:=.int .i64 1,val:=.func (.func 72) #[.pointer (some ⟨A.x,0,none⟩)] #[],born:=0 },{ key:=.int .i64 3,val:=.func (.func 73) #[.pointer (some ⟨A.x,0,none⟩)] #[],born:=1 },{ key:=.int .i64 2,val:=.func (.func 74) #[.pointer (some ⟨A.x,0,none⟩)] #[],born:=2 },{ key:=.int .i64 4,val:=.func (.func 75) #[.pointer (some ⟨A.x,0,none⟩)] #[],born:=3 }] 4 1 (.func (.func 72) #[.pointer (some ⟨A.x,0,none⟩)] #[]) 0 (by rfl)
  have HD:=Lib.hid (HRS.out rfl (by omega) (by first | omega | (simp;omega)) (HX5.out.below (bel_alloc (Below.refl w5.heap.size w5) (.map #[{ key:=.int .i64 1,val:=.func (.func 72) #[.pointer (some ⟨A.x,0,none⟩)] #[],born:=0 },{ key:=.int .i64 3,val:=.func (.func 73) #[.pointer (some ⟨A.x,0,none⟩)] #[],born:=1 },{ key:=.int .i64 2,val:=.func (.func 74) #[.pointer (some ⟨A.x,0,none⟩)] #[],born:=2 },{ key:=.int .i64 4,val:=.func (.func 75) #[.pointer (some ⟨A.x,0,none⟩)] #[],born:=3 }] 4))) 72 (by simp))
  go_wp2_with fail
  rw [hlk]
  go_wp2_with fail
  refine HD.out.mono ?_
  rintro e w6 ⟨rfl,col6,so6,hm6,H6,R6⟩
  clear HD hlk
  go_wp2_with fail
  go_end0
  refine ⟨rfl,col6,so6,hm6,?_,HRt.out.trans ((HR5.out.trans (XR.of_below (bel_alloc (Below.refl w5.heap.size w5) (.map #[{ key:=.int .i64 1,val:=.func (.func 72) #[.pointer (some ⟨A.x,0,none⟩)] #[],born:=0 },{ key:=.int .i64 3,val:=.func (.func 73) #[.pointer (some ⟨A.x,0,none⟩)] #[],born:=1 },{ key:=.int .i64 2,val:=.func (.func 74) #[.pointer (some ⟨A.x,0,none⟩)] #[],born:=2 },{ key:=.int .i64 4,val:=.func (.func 75) #[.pointer (some ⟨A.x,0,none⟩)] #[],born:=3 }] 4)))).trans R6)⟩
  rw [HEV.out]
  rw [show evStart tk s i J = [tell tk s 3 i J] by unfold evStart;rw [HB.out];simp,← List.append_assoc]
  exact H6
 ·skip
  have hlk:=map_get3 w5 #[{ key:=.int .i64 1,val:=.func (.func 72) #[.pointer (some ⟨A.x,0,none⟩)] #[],born:=0 },{ key:=.int .i64 3,val:=.func (.func 73) #[.pointer (some ⟨A.x,0,none⟩)] #[],born:=1 },{ key:=.int .i64 2,val:=.func (.func 74) #[.pointer (some ⟨A.x,0,none⟩)] #[],born:=2 },{ key:=.int .i64 4,val:=.func (.func 75) #[.pointer (some ⟨A.x,0,none⟩)] #[],born:=3 }] 4 2 (.func (.func 74) #[.pointer (some ⟨A.x,0,none⟩)] #[]) 2 (by rfl)
  have HD:=Lib.hid (HRS.out rfl (by omega) (by first | omega | (simp;omega)) (HX5.out.below (bel_alloc (Below.refl w5.heap.size w5) (.map #[{ key:=.int .i64 1,val:=.func (.func 72) #[.pointer (some ⟨A.x,0,none⟩)] #[],born:=0 },{ key:=.int .i64 3,val:=.func (.func 73) #[.pointer (some ⟨A.x,0,none⟩)] #[],born:=1 },{ key:=.int .i64 2,val:=.func (.func 74) #[.pointer (some ⟨A.x,0,none⟩)] #[],born:=2 },{ key:=.int .i64 4,val:=.func (.func 75) #[.pointer (some ⟨A.x,0,none⟩)] #[],born:=3 }] 4))) 74 (by simp))
  go_wp2_with fail
  rw [hlk]
  go_wp2_with fail
  refine HD.out.mono ?_
  rintro e w6 ⟨rfl,col6,so6,hm6,H6,R6⟩
  clear HD hlk
  go_wp2_with fail
  go_end0
  refine ⟨rfl,col6,so6,hm6,?_,HRt.out.trans ((HR5.out.trans (XR.of_below (bel_alloc (Below.refl w5.heap.size w5) (.map #[{ key:=.int .i64 1,val:=.func (.func 72) #[.pointer (some ⟨A.x,0,none⟩)] #[],born:=0 },{ key:=.int .i64 3,val:=.func (.func 73) #[.pointer (some ⟨A.x,0,none⟩)] #[],born:=1 },{ key:=.int .i64 2,val:=.func (.func 74) #[.pointer (some ⟨A.x,0,none⟩)] #[],born:=2 },{ key:=.int .i64 4,val:=.func (.func 75) #[.pointer (some ⟨A.x,0,none⟩)] #[],born:=3 }] 4)))).trans R6)⟩
  rw [HEV.out]
  rw [show evStart tk s i J = [tell tk s 3 i J] by unfold evStart;rw [HB.out];simp,← List.append_assoc]
  exact H6
 ·skip
  have hlk:=map_get3 w5 #[{ key:=.int .i64 1,val:=.func (.func 72) #[.pointer (some ⟨A.x,0,none⟩)] #[],born:=0 },{ key:=.int .i64 3,val:=.func (.func 73) #[.pointer (some ⟨A.x,0,none⟩)] #[],born:=1 },{ key:=.int .i64 2,val:=.func (.func 74) #[.pointer (some ⟨A.x,0,none⟩)] #[],born:=2 },{ key:=.int .i64 4,val:=.func (.func 75) #[.pointer (some ⟨A.x,0,none⟩)] #[],born:=3 }] 4 3 (.func (.func 73) #[.pointer (some ⟨A.x,0,none⟩)] #[]) 1 (by rfl)
  have HD:=Lib.hid (HRS.out rfl (by omega) (by first | omega | (simp;omega)) (HX5.out.below (bel_alloc (Below.refl w5.heap.size w5) (.map #[{ key:=.int .i64 1,val:=.func (.func 72) #[.pointer (some ⟨A.x,0,none⟩)] #[],born:=0 },{ key:=.int .i64 3,val:=.func (.func 73) #[.pointer (some ⟨A.x,0,none⟩)] #[],born:=1 },{ key:=.int .i64 2,val:=.func (.func 74) #[.pointer (some ⟨A.x,0,none⟩)] #[],born:=2 },{ key:=.int .i64 4,val:=.func (.func 75) #[.pointer (some ⟨A.x,0,none⟩)] #[],born:=3 }] 4))) 73 (by simp))
  go_wp2_with fail
  rw [hlk]
  go_wp2_with fail
  refine HD.out.mono ?_
  rintro e w6 ⟨rfl,col6,so6,hm6,H6,R6⟩
  clear HD hlk
  go_wp2_with fail
  go_end0
  refine ⟨rfl,col6,so6,hm6,?_,HRt.out.trans ((HR5.out.trans (XR.of_below (bel_alloc (Below.refl w5.heap.size w5) (.map #[{ key:=.int .i64 1,val:=.func (.func 72) #[.pointer (some ⟨A.x,0,none⟩)] #[],born:=0 },{ key:=.int .i64 3,val:=.func (.func 73) #[.pointer (some ⟨A.x,0,none⟩)] #[],born:=1 },{ key:=.int .i64 2,val:=.func (.func 74) #[.pointer (some ⟨A.x,0,none⟩)] #[],born:=2 },{ key:=.int .i64 4,val:=.func (.func 75) #[.pointer (some ⟨A.x,0,none⟩)] #[],born:=3 }] 4)))).trans R6)⟩
  rw [HEV.out]
  rw [show evStart tk s i J = [tell tk s 3 i J] by unfold evStart;rw [HB.out];simp,← List.append_assoc]
  exact H6
 ·skip
  have hlk:=map_get3 w5 #[{ key:=.int .i64 1,val:=.func (.func 72) #[.pointer (some ⟨A.x,0,none⟩)] #[],born:=0 },{ key:=.int .i64 3,val:=.func (.func 73) #[.pointer (some ⟨A.x,0,none⟩)] #[],born:=1 },{ key:=.int .i64 2,val:=.func (.func 74) #[.pointer (some ⟨A.x,0,none⟩)] #[],born:=2 },{ key:=.int .i64 4,val:=.func (.func 75) #[.pointer (some ⟨A.x,0,none⟩)] #[],born:=3 }] 4 4 (.func (.func 75) #[.pointer (some ⟨A.x,0,none⟩)] #[]) 3 (by rfl)
  have HD:=Lib.hid (HRS.out rfl (by omega) (by first | omega | (simp;omega)) (HX5.out.below (bel_alloc (Below.refl w5.heap.size w5) (.map #[{ key:=.int .i64 1,val:=.func (.func 72) #[.pointer (some ⟨A.x,0,none⟩)] #[],born:=0 },{ key:=.int .i64 3,val:=.func (.func 73) #[.pointer (some ⟨A.x,0,none⟩)] #[],born:=1 },{ key:=.int .i64 2,val:=.func (.func 74) #[.pointer (some ⟨A.x,0,none⟩)] #[],born:=2 },{ key:=.int .i64 4,val:=.func (.func 75) #[.pointer (some ⟨A.x,0,none⟩)] #[],born:=3 }] 4))) 75 (by simp))
  go_wp2_with fail
  rw [hlk]
  go_wp2_with fail
  refine HD.out.mono ?_
  rintro e w6 ⟨rfl,col6,so6,hm6,H6,R6⟩
  clear HD hlk
  go_wp2_with fail
  go_end0
  refine ⟨rfl,col6,so6,hm6,?_,HRt.out.trans ((HR5.out.trans (XR.of_below (bel_alloc (Below.refl w5.heap.size w5) (.map #[{ key:=.int .i64 1,val:=.func (.func 72) #[.pointer (some ⟨A.x,0,none⟩)] #[],born:=0 },{ key:=.int .i64 3,val:=.func (.func 73) #[.pointer (some ⟨A.x,0,none⟩)] #[],born:=1 },{ key:=.int .i64 2,val:=.func (.func 74) #[.pointer (some ⟨A.x,0,none⟩)] #[],born:=2 },{ key:=.int .i64 4,val:=.func (.func 75) #[.pointer (some ⟨A.x,0,none⟩)] #[],born:=3 }] 4)))).trans R6)⟩
  rw [HEV.out]
  rw [show evStart tk s i J = [tell tk s 3 i J] by unfold evStart;rw [HB.out];simp,← List.append_assoc]
  exact H6
end
end
end Go.Proofs.YtnoahekcemfmcaaGreatDoor
