/- A part of the walk: Pu9 Pj Ra Rc Rd. -/
import Derived.Test.YtnoahekcemfmcaaGreatDoorR07
import Derived.Ground.NamesProg
import Derived.Shelf.Strings.SlTrimAscii
namespace Go.Proofs.YtnoahekcemfmcaaGreatDoor
set_option linter.unusedVariables false
set_option linter.unusedSimpArgs false
set_option maxHeartbeats 80000000
set_option maxRecDepth 100000
section
open Go.RowKit
attribute [local go_sem ↓] Go.wp_at_zero Go.wp_at_succ
theorem rstep_keeps (t:Tk) (j:Jb) (hit:Bool):(rstep t j hit).1.no = j.no ∧ (rstep t j hit).1.rel = j.rel ∧ (rstep t j hit).1.must = j.must ∧ (rstep t j hit).1.over = j.over ∧ (rstep t j hit).1.begun = j.begun ∧
  ((rstep t j hit).2 = 0 ∨ (rstep t j hit).2 = 1 ∨ (rstep t j hit).2 = 2 ∨ (rstep t j hit).2 = 3 ∨ (rstep t j hit).2 = 4):=by
 unfold rstep
 split
 ·exact ⟨rfl,rfl,rfl,rfl,rfl,.inl rfl⟩
 ·split
  ·split
   ·exact ⟨rfl,rfl,rfl,rfl,rfl,.inr (.inr (.inl rfl))⟩
   ·refine ⟨rfl,rfl,rfl,rfl,rfl,?_⟩
    simp only
    split
    ·exact .inr (.inr (.inr (.inl rfl)))
    ·exact .inr (.inr (.inl rfl))
  ·split
   ·exact ⟨rfl,rfl,rfl,rfl,rfl,.inr (.inr (.inr (.inr rfl)))⟩
   ·exact ⟨rfl,rfl,rfl,rfl,rfl,.inr (.inl rfl)⟩
theorem jstep_is (i:Int) (t:Tk) (ht:t.Ok) (j:Jb) (hj:JbOk t j) (hf:0 ≤ j.fails ∧ j.fails ≤ 1099511627776) (hl2:j.left ≤ 1099511627776) (hit:Bool) (w:World) :
  Calls Tryz.prog 71 #[jbv i t j,.bool hit] w fun e w'=>e = .returned (.tuple #[jbv i t (jstep t j hit).1,.int .i64 (jstep t j hit).2]) ∧ Below w.heap.size w w':=by
 have hC:=fun W=>rstep_is t ht j hj hf hl2 hit W
 obtain ⟨k1,k2,k3,k4,k5,k6⟩:=rstep_keeps t j hit
 unfold jstep
 simp only
 generalize rstep t j hit = r at *
 obtain ⟨⟨n1,r1,m1,o1,b1,d1,p1,l1,s1,f1⟩,what⟩:=r
 obtain ⟨no,rel,must,over,begun,dem,part,left,struck,fails⟩:=j
 simp only at k1 k2 k3 k4 k5 k6
 subst k1 k2 k3 k4 k5
 clear hj hf hl2
 rcases k6 with rfl | rfl | rfl | rfl | rfl
 ·rw [if_neg (by simp),if_neg (by simp)]
  exact jst_0 t i _ _ _ _ _ _ _ _ _ _ d1 p1 l1 s1 f1 hit w hC
 ·rw [if_neg (by simp),if_neg (by simp)]
  exact jst_1 t i _ _ _ _ _ _ _ _ _ _ d1 p1 l1 s1 f1 hit w hC
 ·rw [if_neg (by simp)]
  cases m1
  ·rw [if_pos (by simp)]
   exact jst_2d t i _ _ _ _ _ _ _ _ _ d1 p1 l1 s1 f1 hit w hC
  ·rw [if_neg (by simp)]
   exact jst_2 t i _ _ _ _ _ _ _ _ _ d1 p1 l1 s1 f1 hit w hC
 ·rw [if_neg (by simp)]
  cases m1
  ·rw [if_pos (by simp)]
   exact jst_3d t i _ _ _ _ _ _ _ _ _ d1 p1 l1 s1 f1 hit w hC
  ·rw [if_neg (by simp)]
   exact jst_3 t i _ _ _ _ _ _ _ _ _ d1 p1 l1 s1 f1 hit w hC
 ·cases o1
  ·rw [if_neg (by simp),if_neg (by simp)]
   exact jst_4 t i _ _ _ _ _ _ _ _ _ d1 p1 l1 s1 f1 hit w hC
  ·rw [if_pos (by simp)]
   exact jst_4o t i _ _ _ _ _ _ _ _ _ d1 p1 l1 s1 f1 hit w hC
end
section
open Go.RowKit
attribute [local go_sem ↓] Go.wp_at_zero Go.wp_at_succ
def tkc (t:Tk):List Value:=[.string t.nm,.int .i64 t.T,.int .i64 t.D,.int .i64 t.C,.int .i64 t.A,.int .i64 t.Seg,.int .i64 t.Cost,.int .i64 t.M,.int .i64 t.K,.int .i64 t.Mode,.int .i64 t.Prio]
def TksIn (B:Nat) (w:World) (a:Option Addr) (n:Nat) (tk:Nat → Tk):Prop :=
 0 < n → ∃ b off,a = some ⟨b,off,none⟩ ∧ b < B ∧ ∀ j,j < n → w.rangeAt b (off + j * 11) (tkc (tk j))
theorem TksIn.fr {F:Nat → Prop} {w w':World} {a:Option Addr} {n:Nat} {tk:Nat → Tk} {B:Nat} (h:TksIn B w a n tk) (hB:B ≤ w.heap.size) (hf:Fr F w w') (hF:∀ b,b < B → (∃ o,a = some ⟨b,o,none⟩) → ¬ F b):TksIn B w' a n tk:=fun h0=>by
 obtain ⟨b,off,e,hlt,hc⟩:=h h0
 exact ⟨b,off,e,hlt,fun j hj=>rg_fr hf (by omega) (hF b hlt ⟨off,e⟩) (hc j hj)⟩
theorem TksIn.keep {w w':World} {a:Option Addr} {n:Nat} {tk:Nat → Tk} {B:Nat} (h:TksIn B w a n tk) (hb:Below B w w'):TksIn B w' a n tk:=fun h0=>by
 obtain ⟨b,off,e,hlt,hc⟩:=h h0
 exact ⟨b,off,e,hlt,fun j hj=>rg_below hb hlt (hc j hj)⟩
def newJb (t:Tk) (no:Int) (rel:Nat) (d:Int) (m:Bool):Jb :=
 { no:=no,rel:=rel,must:=m,over:=decide (t.C < d),begun:=false,dem:=cut t d,part:=0,left:=plen t (cut t d) 0,struck:=false,fails:=0 }
def JG (w w2 w3:World) (xs:List Value):Prop:=w3.rangeAt w2.heap.size 0 xs ∧ w3.there (w.heap.size + 1) 0 23 ∧ w2.heap.size < w3.heap.size ∧ w2.heap.size = w.heap.size + 1 + 1 ∧ Below w.heap.size w w3
theorem size_setCells (b:Nat):∀ (l:List Value) (o:Nat) (w:World),(w.setCells b o l).heap.size = w.heap.size
 | [],_,_=>rfl
 | v :: r,o,w=>(size_setCells b r (o + 1) _).trans (by simp)
theorem jn_three {w w2:World} (H:w2.there (w.heap.size + 1) 0 23 ∧ w2.heap.size = w.heap.size + 1 + 1 ∧ Below w.heap.size w w2) (l:List Value) (Z:Array Value) (T:TypeId) (hl:l.length ≤ Z.size) :
  Hid (JG w w2 ((w2.alloc (.cells Z T)).setCells w2.heap.size 0 l) l):=by
 obtain ⟨h1,h2,h3⟩:=H
 exact ⟨World.rangeAt_setCells_same _ _ _ _ (th_new w2 Z T _ l.length rfl hl),th_setCells _ _ _ (World.there_alloc h1 _),by rw [size_setCells];simp,h2,below_setCells (by omega) _ _ _ (h3.alloc (by omega) _)⟩
theorem jn_four {w w2 w3 w4:World} {xs:List Value} (H:JG w w2 w3 xs) (hb:Below w3.heap.size w3 w4):Hid (JG w w2 w4 xs):=by
 obtain ⟨h1,h2,h3,h4,h5⟩:=H
 have:=hb.size
 exact ⟨rg_below hb h3 h1,th_below hb (by omega) h2,by omega,h4,h5.trans (hb.mono (by omega))⟩
theorem jn_six {w w2 w5:World} {xs:List Value} (H:JG w w2 w5 xs) (l:List Value) (Z:Array Value) (T:TypeId) (hl:l.length ≤ Z.size) :
  Hid (((w5.alloc (.cells Z T)).setCells w5.heap.size 0 l).rangeAt w5.heap.size 0 l ∧ ((w5.alloc (.cells Z T)).setCells w5.heap.size 0 l).rangeAt w2.heap.size 0 xs ∧ ((w5.alloc (.cells Z T)).setCells w5.heap.size 0 l).there (w.heap.size + 1) 0 23 ∧ Below w.heap.size w ((w5.alloc (.cells Z T)).setCells w5.heap.size 0 l)):=by
 obtain ⟨h1,h2,h3,h4,h5⟩:=H
 exact ⟨World.rangeAt_setCells_same _ _ _ _ (th_new w5 Z T _ l.length rfl hl),rg_setCells_ne (World.rangeAt_alloc h1 _) (by omega),th_setCells _ _ _ (World.there_alloc h2 _),below_setCells (by omega) _ _ _ (h5.alloc (by omega) _)⟩
theorem jnew_is (B:Nat) (bu:Int) (a:Option Addr) (n c:Nat) (tk:Nat → Tk) (k:Nat) (no:Int) (rel:Nat) (d:Int) (m:Bool) (w:World) (hT:TksIn B w a n tk) (hB:B ≤ w.heap.size) (hk:k < n) (hn:n ≤ 16) (ht:(tk k).Ok) (hno:0 ≤ no) (hr:rel ≤ 1099511627776) :
  Calls Tryz.prog 65 #[.agg #[.int .i64 bu,.slice a n c],.int .i64 k,.int .i64 no,.int .i64 rel,.int .i64 d,.bool m] w fun e w'=>e = .returned (.tuple #[jbv k (tk k) (newJb (tk k) no rel d m),.int .i64 0]) ∧ Below w.heap.size w w':=by
 obtain ⟨b,off,rfl,hbB,hcs⟩:=hT (by omega)
 have hrk:=hcs k hk
 generalize tk k = t at *
 have hC:=Lib.hid (fun W=>cut_any t d W)
 obtain ⟨hcu1,hcu2⟩:=cut_ok t ht d
 have hG:=Lib.hid (fun W=>begin_is t ht (cut t d) hcu1 hcu2 W)
 have hk0:(0:Int) ≤ (k:Int):=by omega
 have hkI:(k:Int) < (n:Int):=by omega
 have hr0:(0:Int) ≤ (rel:Int):=by omega
 have hrI:(rel:Int) ≤ 1099511627776:=by omega
 have hd1:=ht.cd
 have hd2:=ht.dt
 have hd3:=ht.tm
 have hd4:=ht.c1
 clear hcs hT hcu1 hcu2
 unfold jbv newJb tkv rnv beginJ at *
 unfold tkc at hrk
 simp only at *
 have hrk2:((w.alloc (.cells #[.int .i64 bu,.slice (some ⟨b,off,none⟩) n c] 24)).alloc (.cells #[.int .i64 0,.int .i64 0,.int .i64 0,.int .i64 0,.bool false,.bool false,.bool false,.string ⟨#[]⟩,.int .i64 0,.int .i64 0,.int .i64 0,.int .i64 0,.int .i64 0,.int .i64 0,.int .i64 0,.int .i64 0,.int .i64 0,.int .i64 0,.int .i64 0,.int .i64 0,.int .i64 0,.bool false,.int .i64 0] 59)).rangeAt b (off + k * 11) [.string t.nm,.int .i64 t.T,.int .i64 t.D,.int .i64 t.C,.int .i64 t.A,.int .i64 t.Seg,.int .i64 t.Cost,.int .i64 t.M,.int .i64 t.K,.int .i64 t.Mode,.int .i64 t.Prio]:=World.rangeAt_alloc (World.rangeAt_alloc hrk _) _
 have H2:Hid (((w.alloc (.cells #[.int .i64 bu,.slice (some ⟨b,off,none⟩) n c] 24)).alloc (.cells #[.int .i64 0,.int .i64 0,.int .i64 0,.int .i64 0,.bool false,.bool false,.bool false,.string ⟨#[]⟩,.int .i64 0,.int .i64 0,.int .i64 0,.int .i64 0,.int .i64 0,.int .i64 0,.int .i64 0,.int .i64 0,.int .i64 0,.int .i64 0,.int .i64 0,.int .i64 0,.int .i64 0,.bool false,.int .i64 0] 59)).there (w.heap.size + 1) 0 23 ∧ ((w.alloc (.cells #[.int .i64 bu,.slice (some ⟨b,off,none⟩) n c] 24)).alloc (.cells #[.int .i64 0,.int .i64 0,.int .i64 0,.int .i64 0,.bool false,.bool false,.bool false,.string ⟨#[]⟩,.int .i64 0,.int .i64 0,.int .i64 0,.int .i64 0,.int .i64 0,.int .i64 0,.int .i64 0,.int .i64 0,.int .i64 0,.int .i64 0,.int .i64 0,.int .i64 0,.int .i64 0,.bool false,.int .i64 0] 59)).heap.size = w.heap.size + 1 + 1 ∧ Below w.heap.size w ((w.alloc (.cells #[.int .i64 bu,.slice (some ⟨b,off,none⟩) n c] 24)).alloc (.cells #[.int .i64 0,.int .i64 0,.int .i64 0,.int .i64 0,.bool false,.bool false,.bool false,.string ⟨#[]⟩,.int .i64 0,.int .i64 0,.int .i64 0,.int .i64 0,.int .i64 0,.int .i64 0,.int .i64 0,.int .i64 0,.int .i64 0,.int .i64 0,.int .i64 0,.int .i64 0,.int .i64 0,.bool false,.int .i64 0] 59))):=⟨th_new _ _ _ _ 23 (by simp) (by simp),by simp,bel_alloc (bel_alloc (Below.refl _ _) _) _⟩
 go_enter Tryz.func65,Tryz.ntmps65
 go_wp2_with (first | (refine wpList_load_mid rfl 41 _ rfl b (off + k * 11) rfl _ _ hrk2 Tryz.underlying41 rfl Tryz.size41 ?_;generalize ((w.alloc (.cells #[.int .i64 bu,.slice (some ⟨b,off,none⟩) n c] 24)).alloc (.cells #[.int .i64 0,.int .i64 0,.int .i64 0,.int .i64 0,.bool false,.bool false,.bool false,.string ⟨#[]⟩,.int .i64 0,.int .i64 0,.int .i64 0,.int .i64 0,.int .i64 0,.int .i64 0,.int .i64 0,.int .i64 0,.int .i64 0,.int .i64 0,.int .i64 0,.int .i64 0,.int .i64 0,.bool false,.int .i64 0] 59)) = w2 at H2 ⊢;clear hrk2 hrk) | (refine wpList_store_mid rfl 41 _ _ rfl w2.heap.size 0 _ rfl rfl (th_new w2 #[.string ⟨#[]⟩,.int .i64 0,.int .i64 0,.int .i64 0,.int .i64 0,.int .i64 0,.int .i64 0,.int .i64 0,.int .i64 0,.int .i64 0,.int .i64 0] 41 w2.heap.size 11 rfl (by simp)) Tryz.size41 (by simp [Value.oneCell']) ?_;have G3:=jn_three H2.out [.string t.nm,.int .i64 t.T,.int .i64 t.D,.int .i64 t.C,.int .i64 t.A,.int .i64 t.Seg,.int .i64 t.Cost,.int .i64 t.M,.int .i64 t.K,.int .i64 t.Mode,.int .i64 t.Prio] #[.string ⟨#[]⟩,.int .i64 0,.int .i64 0,.int .i64 0,.int .i64 0,.int .i64 0,.int .i64 0,.int .i64 0,.int .i64 0,.int .i64 0,.int .i64 0] 41 (by simp);generalize World.setCells (w2.alloc (.cells #[.string ⟨#[]⟩,.int .i64 0,.int .i64 0,.int .i64 0,.int .i64 0,.int .i64 0,.int .i64 0,.int .i64 0,.int .i64 0,.int .i64 0,.int .i64 0] 41)) w2.heap.size 0 _ = w3 at G3 ⊢;have r3:=G3.out.1) | (refine wpList_load_mid rfl 41 _ rfl w2.heap.size 0 rfl _ _ r3 Tryz.underlying41 rfl Tryz.size41 ?_) | (go_at_call 99;refine (hC.out _).mono ?_;rintro e w4 ⟨rfl,hb4⟩;have G4:=jn_four G3.out hb4;have r4:=G4.out.1;clear hC r3 G3 hb4) | (refine wpList_load_mid rfl 41 _ rfl w2.heap.size 0 rfl _ _ r4 Tryz.underlying41 rfl Tryz.size41 ?_) | (go_at_call 100;refine (hG.out _).mono ?_;rintro e w5 ⟨rfl,hb5⟩;have G5:=jn_four G4.out hb5;clear hG r4 G4 hb5) | (refine wpList_store_mid rfl 57 _ _ rfl w5.heap.size 0 _ rfl rfl (th_new w5 #[.string ⟨#[]⟩,.int .i64 0,.int .i64 0,.int .i64 0,.int .i64 0,.int .i64 0,.int .i64 0,.int .i64 0,.int .i64 0,.int .i64 0,.int .i64 0,.int .i64 0,.int .i64 0,.int .i64 0,.bool false,.int .i64 0] 57 w5.heap.size 16 rfl (by simp)) Tryz.size57 (by simp [Value.oneCell']) ?_;have G6:=jn_six G5.out [.string t.nm,.int .i64 t.T,.int .i64 t.D,.int .i64 t.C,.int .i64 t.A,.int .i64 t.Seg,.int .i64 t.Cost,.int .i64 t.M,.int .i64 t.K,.int .i64 t.Mode,.int .i64 t.Prio,.int .i64 (cut t d),.int .i64 0,.int .i64 (plen t (cut t d) 0),.bool false,.int .i64 0] #[.string ⟨#[]⟩,.int .i64 0,.int .i64 0,.int .i64 0,.int .i64 0,.int .i64 0,.int .i64 0,.int .i64 0,.int .i64 0,.int .i64 0,.int .i64 0,.int .i64 0,.int .i64 0,.int .i64 0,.bool false,.int .i64 0] 57 (by simp);generalize World.setCells (w5.alloc (.cells #[.string ⟨#[]⟩,.int .i64 0,.int .i64 0,.int .i64 0,.int .i64 0,.int .i64 0,.int .i64 0,.int .i64 0,.int .i64 0,.int .i64 0,.int .i64 0,.int .i64 0,.int .i64 0,.int .i64 0,.bool false,.int .i64 0] 57)) w5.heap.size 0 _ = w6 at G6 ⊢;have r6:=G6.out.1;have cD:=G6.out.2.1 2 _ rfl;simp only [Nat.zero_add] at cD;have o6:=G6.out.2.2.1) | (refine wpList_load_mid rfl 57 _ rfl w5.heap.size 0 rfl _ _ r6 Tryz.underlying57 rfl Tryz.size57 ?_) | (refine wpList_store_mid rfl 59 _ _ rfl (w.heap.size + 1) 0 _ rfl rfl o6 Tryz.size59 (by simp [Value.oneCell']) ?_))
 exact bodyPost_ret (res_cell_tmp (by rfl) _ _ (w.heap.size + 1) _ _ rfl (World.rangeAt_setCells_same _ _ _ _ o6) Tryz.underlying59 rfl Tryz.size59) rfl ⟨rfl,below_setCells (by omega) _ _ _ G6.out.2.2.2⟩
end
section
open Go.RowKit
def wordB (c:Int):Bool:=(decide (97 ≤ c) && decide (c ≤ 122)) || ((decide (48 ≤ c) && decide (c ≤ 57)) || decide (c = 95))
def byt (s:ByteArray) (i:Nat):Int:=if h:i < s.size then ((s[i]'h).toNat:Int) else 0
structure NamedP (s:ByteArray):Prop where
 z1:1 ≤ s.size
 z2:s.size ≤ 12
 f1:97 ≤ byt s 0
 f2:byt s 0 ≤ 122
 ws:∀ i,i < s.size → wordB (byt s i) = true
theorem run_at (w:World) (s:ByteArray) (i:Nat) (h:i < s.size):(Instr.index 9 (.string s) (.int .i64 (i:Int))).run Tryz.prog w = .ok (.int .u8 (byt s i)) w:=by
 rw [run_index_string w 9 s .i64 i Tryz.underlying9,dif_pos (by omega)]
 unfold byt
 rw [dif_pos h]
 rfl
def RetB (e:Ending) (P:Prop):Prop:=∃ b,e = .returned (.bool b) ∧ (b = true → P)
theorem rnamed_any (s:ByteArray) (w:World) :
  Calls Tryz.prog 53 #[.string s] w fun e w'=>RetB e (NamedP s) ∧ Below w.heap.size w w':=by
 by_cases h1:s.size < 1
 ·have d1:decide ((s.size:Int) < 1) = true:=decide_eq_true (by omega)
  go_enter Tryz.func53,Tryz.ntmps53
  go_wp2_with fail
  go_ret
  exact ⟨⟨false,rfl,by simp⟩,Below.refl _ _⟩
 have d1:decide ((s.size:Int) < 1) = false:=decide_eq_false (by omega)
 by_cases h2:12 < s.size
 ·have d2:decide ((12:Int) < (s.size:Int)) = true:=decide_eq_true (by omega)
  go_enter Tryz.func53,Tryz.ntmps53
  go_wp2_with fail
  go_ret
  exact ⟨⟨false,rfl,by simp⟩,Below.refl _ _⟩
 have d2:decide ((12:Int) < (s.size:Int)) = false:=decide_eq_false (by omega)
 have hi0:(0:Int) < (s.size:Int):=by omega
 have R0:∀ w,(Instr.index 9 (.string s) (.int .i64 0)).run Tryz.prog w = .ok (.int .u8 (byt s 0)) w:=fun w=>run_at w s 0 (by omega)
 by_cases h3:byt s 0 < 97
 ·have d3:decide (byt s 0 < 97) = true:=decide_eq_true h3
  clear h3
  go_enter Tryz.func53,Tryz.ntmps53
  go_wp2_with fail
  go_ret
  exact ⟨⟨false,rfl,by simp⟩,Below.refl _ _⟩
 have d3:decide (byt s 0 < 97) = false:=decide_eq_false h3
 by_cases h4:122 < byt s 0
 ·have d4:decide (122 < byt s 0) = true:=decide_eq_true h4
  clear h3 h4
  go_enter Tryz.func53,Tryz.ntmps53
  go_wp2_with fail
  go_ret
  exact ⟨⟨false,rfl,by simp⟩,Below.refl _ _⟩
 have d4:decide (122 < byt s 0) = false:=decide_eq_false h4
 have H3:=Lib.hid h3
 have H4:=Lib.hid h4
 clear h3 h4
 go_enter Tryz.func53,Tryz.ntmps53
 go_wp2_with fail
 go_loopw [3,4] (fun ix c wx=>∃ k:Nat,k ≤ s.size ∧ 1 ≤ k ∧ ix = .int .i64 k ∧ Hid (∀ i,i < k → wordB (byt s i) = true) ∧ wx = w) (fun ix _ _=>s.size - (intOf ix).toNat)
 case atStart=>exact ⟨1,by omega,by omega,rfl,fun i hi=>by
  have h3:=H3.out
  have h4:=H4.out
  have:i = 0:=by omega
  subst this
  simp [wordB];omega,rfl⟩
 case round =>
  obtain ⟨k,hk,hk1,rfl,HW,rfl⟩:=hrel
  by_cases hlt:k < s.size
  ·have hkI:(k:Int) < (s.size:Int):=by omega
   have hk0:(0:Int) ≤ (k:Int):=by omega
   have hdl:decide ((k:Int) < (s.size:Int)) = true:=decide_eq_true hkI
   have R1:∀ w,(Instr.index 9 (.string s) (.int .i64 (k:Int))).run Tryz.prog w = .ok (.int .u8 (byt s k)) w:=fun w=>run_at w s k hlt
   clear R0 d3 d4
   go_wp2_with fail
   all_goals try (go_ret;exact ⟨⟨false,rfl,by simp⟩,Below.refl _ _⟩)
   all_goals
    have hw:wordB (byt s k) = true:=by
     simp only [wordB,Bool.or_eq_true,Bool.and_eq_true,decide_eq_true_eq]
     first
      | omega
      |(rename_i hq;simp at hq;omega)
    have HW2:Hid (∀ i,i < k + 1 → wordB (byt s i) = true):=fun i hi=>by
     by_cases e:i = k
     ·subst e;exact hw
     ·exact HW.out i (by omega)
    clear hw
    go_roundw
    case rel=>exact ⟨k + 1,by omega,by omega,by simp,HW2,by simp⟩
    case measure=>simp [intOf];omega
  ·have hkn:k = s.size:=by omega
   subst hkn
   have hdl:decide ((s.size:Int) < (s.size:Int)) = false:=decide_eq_false (by omega)
   go_wp2_with fail
   go_ret
   exact ⟨⟨true,rfl,fun _=>⟨by omega,by omega,by have:=H3.out;omega,by have:=H4.out;omega,HW.out⟩⟩,Below.refl _ _⟩
end
section
open Go.RowKit Go.Shelf Go.Lib
def Tryz.trim_ren:Go.Shelf.Ren:=⟨fun | 160=>207 | 232=>222 | 231=>221 | 227=>223 | 234=>225 | 233=>224 | 236=>227 | 235=>226 | 228=>235 | 271=>238 | 151=>237 | 197=>236 | 120=>241 | 152=>240 | 260=>239 | 137=>242 | 119=>243 | 224=>244 | 225=>245 | 217=>246 | 266=>247 | n=>n,fun | 9=>9 | 4=>4 | 3=>3 | 5=>5 | 117=>315 | 116=>314 | 0=>0 | 124=>318 | 21=>21 | 105=>322 | 46=>82 | 119=>326 | 139=>329 | 138=>328 | n=>n,fun | 3=>0 | 4=>1 | n=>n⟩
theorem Tryz.trim:Go.Proofs.Lays.n160 Tryz.prog Tryz.trim_ren:={
 mixed:=by kernel_rfl,
 f119:=Tryz.func243.trans (congrArg some (by kernel_rfl)),
 f120:=Tryz.func241.trans (congrArg some (by kernel_rfl)),
 f137:=Tryz.func242.trans (congrArg some (by kernel_rfl)),
 f151:=Tryz.func237.trans (congrArg some (by kernel_rfl)),
 f152:=Tryz.func240.trans (congrArg some (by kernel_rfl)),
 f160:=Tryz.func207.trans (congrArg some (by kernel_rfl)),
 f197:=Tryz.func236.trans (congrArg some (by kernel_rfl)),
 f217:=Tryz.func246.trans (congrArg some (by kernel_rfl)),
 f224:=Tryz.func244.trans (congrArg some (by kernel_rfl)),
 f225:=Tryz.func245.trans (congrArg some (by kernel_rfl)),
 f227:=Tryz.func223.trans (congrArg some (by kernel_rfl)),
 f228:=Tryz.func235.trans (congrArg some (by kernel_rfl)),
 f231:=Tryz.func221.trans (congrArg some (by kernel_rfl)),
 f232:=Tryz.func222.trans (congrArg some (by kernel_rfl)),
 f233:=Tryz.func224.trans (congrArg some (by kernel_rfl)),
 f234:=Tryz.func225.trans (congrArg some (by kernel_rfl)),
 f235:=Tryz.func226.trans (congrArg some (by kernel_rfl)),
 f236:=Tryz.func227.trans (congrArg some (by kernel_rfl)),
 f260:=Tryz.func239.trans (congrArg some (by kernel_rfl)),
 f266:=Tryz.func247.trans (congrArg some (by kernel_rfl)),
 f271:=Tryz.func238.trans (congrArg some (by kernel_rfl)),
 t0:=Tryz.underlying0,
 a0:=Tryz.isAgg0,
 z0:=Tryz.sizeOf0,
 v0:=Tryz.zeroValue0,
 t3:=Tryz.underlying3,
 a3:=Tryz.isAgg3,
 z3:=Tryz.sizeOf3,
 v3:=Tryz.zeroValue3,
 t4:=Tryz.underlying4,
 a4:=Tryz.isAgg4,
 z4:=Tryz.sizeOf4,
 v4:=Tryz.zeroValue4,
 t5:=Tryz.underlying5,
 a5:=Tryz.isAgg5,
 z5:=Tryz.sizeOf5,
 v5:=Tryz.zeroValue5,
 t9:=Tryz.underlying9,
 a9:=Tryz.isAgg9,
 z9:=Tryz.sizeOf9,
 v9:=Tryz.zeroValue9,
 t21:=Tryz.underlying21,
 a21:=Tryz.isAgg21,
 z21:=Tryz.sizeOf21,
 v21:=Tryz.zeroValue21,
 t46:=Tryz.underlying82,
 a46:=Tryz.isAgg82,
 z46:=Tryz.sizeOf82,
 v46:=Tryz.zeroValue82,
 t105:=Tryz.underlying322,
 a105:=Tryz.isAgg322,
 z105:=Tryz.sizeOf322,
 v105:=Tryz.zeroValue322,
 t116:=Tryz.underlying314,
 a116:=Tryz.isAgg314,
 z116:=Tryz.sizeOf314,
 t117:=Tryz.underlying315,
 a117:=Tryz.isAgg315,
 z117:=Tryz.sizeOf315,
 v117:=Tryz.zeroValue315,
 t119:=Tryz.underlying326,
 a119:=Tryz.isAgg326,
 z119:=Tryz.sizeOf326,
 t124:=Tryz.underlying318,
 a124:=Tryz.isAgg318,
 z124:=Tryz.sizeOf318,
 v124:=Tryz.zeroValue318,
 t138:=Tryz.underlying328,
 a138:=Tryz.isAgg328,
 z138:=Tryz.sizeOf328,
 v138:=Tryz.zeroValue328,
 t139:=Tryz.underlying329,
 a139:=Tryz.isAgg329,
 z139:=Tryz.sizeOf329,
 v139:=Tryz.zeroValue329,
 g3:=by kernel_rfl,
 g4:=by kernel_rfl }
def lettersC:ByteArray:=⟨#[97,98,99,100,101,102,103,104,105,106,107,108,109,110,111,112,113,114,115,116,117,118,119,120,121,122]⟩
def othersC:ByteArray:=⟨#[97,98,99,100,101,102,103,104,105,106,107,108,109,110,111,112,113,114,115,116,117,118,119,120,121,122,48,49,50,51,52,53,54,55,56,57,95]⟩
theorem trim_any (s cut:ByteArray) (w:World) (hs:s.size ≤ 100) (hc:cut.size < 4294967281) (ha:∀ (j:Nat) b,cut.data.toList[j]? = some b → b.toNat < 128) (h0:Lib.trimS s.data.toList cut.data.toList = []) :
  Calls Tryz.prog 207 #[.string s,.string cut] w fun e w'=>e = .returned (.string ⟨#[]⟩) ∧ Below w.heap.size w w':=by
 have h:=Any.strings_Trim_laid Tryz.trim (by kernel_rfl) s cut w (by omega) hc ha
 rw [h0] at h
 exact h
theorem trim_all (l cs:List UInt8) (h:∀ b ∈ l,cs.contains b = true):Lib.trimS l cs = []:=by
 have e:∀ l:List UInt8,(∀ b ∈ l,cs.contains b = true) → l.dropWhile (cs.contains ·) = []:=fun l=>by
  induction l with
  | nil=>intro _;rfl
  | cons a l ih=>intro h;rw [List.dropWhile_cons,if_pos (h a List.mem_cons_self)];exact ih fun b hb=>h b (List.mem_cons_of_mem _ hb)
 unfold Lib.trimS Lib.trimLeftS Lib.trimRightS
 rw [e l.reverse (fun b hb=>h b (List.mem_reverse.1 hb))]
 rfl
theorem in_letters:∀ b:UInt8,97 ≤ b.toNat → b.toNat ≤ 122 → lettersC.data.toList.contains b = true:=by
 have:∀ b:Fin 256,97 ≤ b.val → b.val ≤ 122 → lettersC.data.toList.contains (UInt8.ofNat b.val) = true:=by decide
 intro b h1 h2
 have:=this ⟨b.toNat,b.toNat_lt⟩ h1 h2
 simpa using this
theorem in_others:∀ b:UInt8,wordB (b.toNat:Int) = true → othersC.data.toList.contains b = true:=by
 have:∀ b:Fin 256,wordB ((b.val:Nat):Int) = true → othersC.data.toList.contains (UInt8.ofNat b.val) = true:=by decide
 intro b h1
 have:=this ⟨b.toNat,b.toNat_lt⟩ h1
 simpa using this
theorem mem_byt (s:ByteArray) (b:UInt8) (h:b ∈ s.data.toList):∃ i,i < s.size ∧ byt s i = (b.toNat:Int):=by
 obtain ⟨i,hi,e⟩:=List.getElem_of_mem h
 have hs:i < s.size:=by simpa using hi
 refine ⟨i,hs,?_⟩
 unfold byt
 rw [dif_pos hs]
 have:s[i] = b:=by rw [← e];rfl
 rw [this]
theorem named_head {s:ByteArray} (h:NamedP s):Lib.trimS (s.extract 0 1).data.toList lettersC.data.toList = []:=by
 apply trim_all
 intro b hb
 have h1:b ∈ s.data.toList.take 1:=by simpa using hb
 obtain ⟨i,hi,e⟩:=List.getElem_of_mem h1
 rw [List.length_take] at hi
 have hz:=h.z1
 have h0:i = 0:=by omega
 subst h0
 have e2:byt s 0 = (b.toNat:Int):=by
  unfold byt
  rw [dif_pos (by omega)]
  have:s[0] = b:=by rw [← e,List.getElem_take];rfl
  rw [this]
 have a1:=h.f1
 have a2:=h.f2
 exact in_letters b (by omega) (by omega)
theorem named_tail {s:ByteArray} (h:NamedP s):Lib.trimS s.data.toList othersC.data.toList = []:=by
 apply trim_all
 intro b hb
 obtain ⟨i,hi,e⟩:=mem_byt s b hb
 exact in_others b (by rw [← e];exact h.ws i hi)
theorem inamed_ok (s:ByteArray) (h:NamedP s) (w:World):Calls Tryz.prog 175 #[.string s] w fun e w'=>e = .returned (.bool true) ∧ Below w.heap.size w w':=by
 have hz1:decide ((s.size:Int) ≥ 1) = true:=decide_eq_true (by have:=h.z1;omega)
 have hz2:decide ((s.size:Int) ≤ 12) = true:=decide_eq_true (by have:=h.z2;omega)
 have hzz:(1:Int) ≤ (s.size:Int):=by have:=h.z1;omega
 have HT:=Lib.hid (fun w=>trim_any (s.extract 0 1) lettersC w (by have:=h.z2;simp;omega) (by decide) (ascii_of_all (by decide)) (named_head h))
 have HU:=Lib.hid (fun w=>trim_any s othersC w (by have:=h.z2;omega) (by decide) (ascii_of_all (by decide)) (named_tail h))
 unfold lettersC at HT
 unfold othersC at HU
 clear h
 go_enter Tryz.func175,Tryz.ntmps175
 go_wp2_with (first | (go_at_call 207;refine (HT.out _).mono ?_;rintro e w1 ⟨rfl,hb1⟩;clear HT) | (go_at_call 207;refine (HU.out _).mono ?_;rintro e w2 ⟨rfl,hb2⟩))
 go_ret
 exact ⟨rfl,hb1.trans (hb2.mono hb1.size)⟩
end
section
open Go.RowKit
theorem in_ok (a b c:Int) (w:World) (h1:b ≤ a) (h2:a ≤ c):Calls Tryz.prog 89 #[.int .i64 a,.int .i64 b,.int .i64 c] w fun e w'=>e = .returned (.bool true) ∧ w' = w:=by
 have d1:decide (a ≥ b) = true:=decide_eq_true h1
 have d2:decide (a ≤ c) = true:=decide_eq_true h2
 go_enter Tryz.func89,Tryz.ntmps89
 go_wp2_with fail
 go_ret
 exact ⟨rfl,rfl⟩
theorem one_lt (w:World) (o:Obj):w.heap.size < (w.alloc o).heap.size:=by simp
structure TBox (w:World) (t:Tk) (w1:World):Prop where
 c0:w1.cell? ⟨w.heap.size,0,none⟩ = some (.string t.nm)
 c1:w1.cell? ⟨w.heap.size,1,none⟩ = some (.int .i64 t.T)
 c2:w1.cell? ⟨w.heap.size,2,none⟩ = some (.int .i64 t.D)
 c3:w1.cell? ⟨w.heap.size,3,none⟩ = some (.int .i64 t.C)
 c4:w1.cell? ⟨w.heap.size,4,none⟩ = some (.int .i64 t.A)
 c5:w1.cell? ⟨w.heap.size,5,none⟩ = some (.int .i64 t.Seg)
 c6:w1.cell? ⟨w.heap.size,6,none⟩ = some (.int .i64 t.Cost)
 c7:w1.cell? ⟨w.heap.size,7,none⟩ = some (.int .i64 t.M)
 c8:w1.cell? ⟨w.heap.size,8,none⟩ = some (.int .i64 t.K)
 c9:w1.cell? ⟨w.heap.size,9,none⟩ = some (.int .i64 t.Mode)
 c10:w1.cell? ⟨w.heap.size,10,none⟩ = some (.int .i64 t.Prio)
 lt:w.heap.size < w1.heap.size
 bel:Below w.heap.size w w1
theorem tbox (w:World) (t:Tk):TBox w t (w.alloc (.cells #[.string t.nm,.int .i64 t.T,.int .i64 t.D,.int .i64 t.C,.int .i64 t.A,.int .i64 t.Seg,.int .i64 t.Cost,.int .i64 t.M,.int .i64 t.K,.int .i64 t.Mode,.int .i64 t.Prio] 41)) :=
 ⟨cell_newb _ _ _ _ 0 _ rfl rfl,cell_newb _ _ _ _ 1 _ rfl rfl,cell_newb _ _ _ _ 2 _ rfl rfl,cell_newb _ _ _ _ 3 _ rfl rfl,cell_newb _ _ _ _ 4 _ rfl rfl,cell_newb _ _ _ _ 5 _ rfl rfl,cell_newb _ _ _ _ 6 _ rfl rfl,cell_newb _ _ _ _ 7 _ rfl rfl,cell_newb _ _ _ _ 8 _ rfl rfl,cell_newb _ _ _ _ 9 _ rfl rfl,cell_newb _ _ _ _ 10 _ rfl rfl,one_lt _ _,bel_alloc (Below.refl _ _) _⟩
theorem timed_ok (t:Tk) (ah:Value) (w:World) (ht:t.Ok):Calls Tryz.prog 133 #[tkv t,ah] w fun e w'=>e = .returned (.bool true) ∧ Below w.heap.size w w':=by
 unfold tkv
 have hB:=Lib.hid (tbox w t)
 have q0:1 ≤ t.T:=by have:=ht.c1;have:=ht.cd;have:=ht.dt;omega
 have q1:t.T ≤ 1048576:=ht.tm
 have q2:1 ≤ t.D:=by have:=ht.c1;have:=ht.cd;omega
 have q3:t.D ≤ t.T:=ht.dt
 have q4:1 ≤ t.C:=ht.c1
 have q5:t.C ≤ t.D:=ht.cd
 have q6:0 ≤ t.Cost:=ht.k0
 have q7:t.Cost ≤ 1000:=ht.k1
 clear ht
 go_enter Tryz.func133,Tryz.ntmps133
 obtain ⟨c0,c1,c2,c3,c4,c5,c6,c7,c8,c9,c10,clt,cb⟩:=hB.out
 go_wp2_with (go_at_call 89;refine (in_ok _ _ _ _ (by assumption) (by assumption)).mono ?_;rintro e w2 ⟨rfl,rfl⟩)
 go_ret
 exact ⟨rfl,(tbox w t).bel⟩
theorem firm_ok (t:Tk) (ah:Value) (w:World) (ht:t.Ok):Calls Tryz.prog 135 #[tkv t,ah] w fun e w'=>e = .returned (.bool true) ∧ Below w.heap.size w w':=by
 unfold tkv
 have hB:=Lib.hid (tbox w t)
 have q0:1 ≤ t.K:=by have:=ht.f1;have:=ht.f2;omega
 have q1:t.K ≤ 64:=ht.f3
 have q2:1 ≤ t.M:=ht.f1
 have q3:t.M ≤ t.K:=ht.f2
 clear ht
 go_enter Tryz.func135,Tryz.ntmps135
 obtain ⟨c0,c1,c2,c3,c4,c5,c6,c7,c8,c9,c10,clt,cb⟩:=hB.out
 go_wp2_with (go_at_call 89;refine (in_ok _ _ _ _ (by assumption) (by assumption)).mono ?_;rintro e w2 ⟨rfl,rfl⟩)
 go_ret
 exact ⟨rfl,(tbox w t).bel⟩
theorem moded_1 (t:Tk) (ah:Value) (w:World) (ht:t.Ok) (hm:t.Mode = 1):Calls Tryz.prog 134 #[tkv t,ah] w fun e w'=>e = .returned (.bool true) ∧ Below w.heap.size w w':=by
 unfold tkv
 have hB:=Lib.hid (tbox w t)
 obtain ⟨q0,q1,q2⟩:=ht.r1 hm
 have d0:(t.Mode == 1) = true:=by simpa using hm
 have d1:(t.A == 0) = true:=by simpa using q2
 clear hm q2
 clear ht
 go_enter Tryz.func134,Tryz.ntmps134
 obtain ⟨c0,c1,c2,c3,c4,c5,c6,c7,c8,c9,c10,clt,cb⟩:=hB.out
 go_wp2_with (go_at_call 89;refine (in_ok _ _ _ _ (by assumption) (by assumption)).mono ?_;rintro e w2 ⟨rfl,rfl⟩)
 go_ret
 exact ⟨rfl,(tbox w t).bel⟩
theorem moded_2 (t:Tk) (ah:Value) (w:World) (ht:t.Ok) (hm:t.Mode ≠ 1):Calls Tryz.prog 134 #[tkv t,ah] w fun e w'=>e = .returned (.bool true) ∧ Below w.heap.size w w':=by
 unfold tkv
 have hB:=Lib.hid (tbox w t)
 obtain ⟨q0,q1,q2⟩:=ht.r2 hm
 have q3:2 ≤ t.Mode:=by have:=ht.m1;omega
 have q4:t.Mode ≤ 3:=ht.m3
 have d0:(t.Mode == 1) = false:=by simpa using hm
 have d1:(t.Seg == 0) = true:=by simpa using q2
 clear hm q2
 clear ht
 go_enter Tryz.func134,Tryz.ntmps134
 obtain ⟨c0,c1,c2,c3,c4,c5,c6,c7,c8,c9,c10,clt,cb⟩:=hB.out
 go_wp2_with (go_at_call 89;refine (in_ok _ _ _ _ (by assumption) (by assumption)).mono ?_;rintro e w2 ⟨rfl,rfl⟩)
 go_ret
 exact ⟨rfl,(tbox w t).bel⟩
theorem moded_ok (t:Tk) (ah:Value) (w:World) (ht:t.Ok):Calls Tryz.prog 134 #[tkv t,ah] w fun e w'=>e = .returned (.bool true) ∧ Below w.heap.size w w':=by
 by_cases hm:t.Mode = 1
 ·exact moded_1 t ah w ht hm
 ·exact moded_2 t ah w ht hm
end
end Go.Proofs.YtnoahekcemfmcaaGreatDoor
