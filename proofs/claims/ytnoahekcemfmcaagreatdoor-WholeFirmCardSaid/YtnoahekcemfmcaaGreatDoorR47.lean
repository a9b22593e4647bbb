/- A part of the walk: Na. -/
import Derived.Test.YtnoahekcemfmcaaGreatDoorR42
import Derived.Test.YtnoahekcemfmcaaGreatDoorR43
import Derived.Test.YtnoahekcemfmcaaGreatDoorR20
namespace Go.Proofs.YtnoahekcemfmcaaGreatDoor
set_option linter.unusedVariables false
set_option linter.unusedSimpArgs false
set_option maxHeartbeats 80000000
set_option maxRecDepth 100000
section
open Go.RowKit
abbrev AskT:Type:=Int × Int × Bool
def AsksIn (B:Nat) (w:World) (a:Option Addr) (l:List AskT):Prop :=
 0 < l.length → ∃ b off,a = some ⟨b,off,none⟩ ∧ b < B ∧ ∀ j (h:j < l.length),w.cell? ⟨b,off + j * 3,none⟩ = some (.int .u16 l[j].1) ∧ w.cell? ⟨b,off + j * 3 + 1,none⟩ = some (.int .u8 l[j].2.1) ∧ w.cell? ⟨b,off + j * 3 + 2,none⟩ = some (.bool l[j].2.2)
theorem AsksIn.keep {T:Nat → Prop} {B:Nat} {w w':World} {a:Option Addr} {l:List AskT} (h:AsksIn B w a l) (hB:B ≤ w.heap.size) (hf:Fr T w w') (hT:∀ b,b < B → ¬ T b):AsksIn B w' a l:=fun h0=>by
 obtain ⟨b,off,e,hlt,hc⟩:=h h0
 refine ⟨b,off,e,hlt,fun j hj=>?_⟩
 obtain ⟨c1,c2,c3⟩:=hc j hj
 exact ⟨(hf.cell (p:=⟨b,off + j * 3,none⟩) (by show b < _;omega) (hT b hlt)).trans c1,(hf.cell (p:=⟨b,off + j * 3 + 1,none⟩) (by show b < _;omega) (hT b hlt)).trans c2,(hf.cell (p:=⟨b,off + j * 3 + 2,none⟩) (by show b < _;omega) (hT b hlt)).trans c3⟩
def relK (t:Int) (f:Nat → Int) (q:Nat → Bool) (d:Nat → Int):Nat → List (Int × Int)
 | 0=>[]
 | k + 1=>if f k ≤ t ∧ q k = true then relK t f q d k ++ [((k:Int),d k)] else relK t f q d k
def opnK (T:Nat → Int) (t:Int) (f:Nat → Int) (q:Nat → Bool) (k i:Nat):Int:=if i < k ∧ f i ≤ t ∧ q i = true then t + T i else f i
theorem opnK_zero (T:Nat → Int) (t:Int) (f:Nat → Int) (q:Nat → Bool) (i:Nat):opnK T t f q 0 i = f i:=by unfold opnK;rw [if_neg (by omega)]
theorem opnK_self (T:Nat → Int) (t:Int) (f:Nat → Int) (q:Nat → Bool) (k:Nat):opnK T t f q k k = f k:=by unfold opnK;rw [if_neg (by omega)]
theorem opnK_yes (T:Nat → Int) (t:Int) (f:Nat → Int) (q:Nat → Bool) (k i:Nat) (h:f k ≤ t ∧ q k = true):opnK T t f q (k + 1) i = upd (opnK T t f q k) k (t + T k) i:=by
 by_cases e:i = k
 ·subst e;rw [upd_self];unfold opnK;rw [if_pos ⟨by omega,h⟩]
 ·rw [upd_ne _ _ e]
  unfold opnK
  have:(i < k + 1 ∧ f i ≤ t ∧ q i = true) ↔ (i < k ∧ f i ≤ t ∧ q i = true):=by
   constructor
   ·rintro ⟨h1,h2⟩;exact ⟨by omega,h2⟩
   ·rintro ⟨h1,h2⟩;exact ⟨by omega,h2⟩
  simp only [this]
theorem opnK_no (T:Nat → Int) (t:Int) (f:Nat → Int) (q:Nat → Bool) (k i:Nat) (h:¬ (f k ≤ t ∧ q k = true)):opnK T t f q (k + 1) i = opnK T t f q k i:=by
 unfold opnK
 have:(i < k + 1 ∧ f i ≤ t ∧ q i = true) ↔ (i < k ∧ f i ≤ t ∧ q i = true):=by
  constructor
  ·rintro ⟨h1,h2⟩
   refine ⟨?_,h2⟩
   by_cases e:i = k
   ·subst e;exact absurd h2 h
   ·omega
  ·rintro ⟨h1,h2⟩;exact ⟨by omega,h2⟩
 simp only [this]
theorem relK_mem {t:Int} {f:Nat → Int} {q:Nat → Bool} {d:Nat → Int} {k:Nat} {x:Int × Int} (h:x ∈ relK t f q d k):∃ i,i < k ∧ x = ((i:Int),d i) ∧ f i ≤ t ∧ q i = true:=by
 induction k with
 | zero=>cases h
 | succ k ih =>
  unfold relK at h
  split at h
  ·rename_i hc
   rcases List.mem_append.1 h with h | h
   ·obtain ⟨i,h1,h2⟩:=ih h;exact ⟨i,by omega,h2⟩
   ·obtain rfl:=List.mem_singleton.1 h;exact ⟨k,by omega,rfl,hc⟩
  ·obtain ⟨i,h1,h2⟩:=ih h;exact ⟨i,by omega,h2⟩
theorem relK_len (t:Int) (f:Nat → Int) (q:Nat → Bool) (d:Nat → Int) (k:Nat):(relK t f q d k).length ≤ k:=by
 induction k with
 | zero=>exact Nat.le_refl _
 | succ k ih =>
  unfold relK
  split
  ·rw [List.length_append];show _ + 1 ≤ _;omega
  ·omega
def askB (x:AskT) (i:Nat):Bool:=bits BinOp.and IntKind.u16 (x.1 / 2 ^ i) 1 == 1
def demB (C:Int) (x:AskT):Int:=if (x.2.1.tmod 3 == 1) = true then 1 + x.2.1.tmod C else C
theorem demB_bd {C:Int} (hC:1 ≤ C) (x:AskT) (hx:0 ≤ x.2.1):1 ≤ demB C x ∧ demB C x ≤ C:=by
 unfold demB
 split
 ·have h1:=Int.tmod_nonneg C hx
  have h2:=Int.tmod_lt_of_pos x.2.1 (show 0 < C by omega)
  omega
 ·omega
section
variable (tk:Nat → Tk) (n:Nat) (b g:Int) (A:List AskT)
def askAt (t:Nat):AskT:=A.getD t (0,0,false)
def opnT:Nat → Nat → Int
 | 0=>fun _=>0
 | t + 1=>opnK (fun i=>(tk i).T) t (opnT t) (askB (askAt A t)) n
def rowT (t:Nat):List (Int × Int):=relK t (opnT tk n A t) (askB (askAt A t)) (fun i=>demB (tk i).C (askAt A t)) n
def madeT (k:Nat):List (List (Int × Int) × Bool):=(List.range k).map fun t=>(rowT tk n A t,mhit b g (fun j=>(askAt A j).2.2) t)
theorem madeT_len (k:Nat):(madeT tk n b g A k).length = k:=by simp [madeT]
theorem madeT_succ (k:Nat):madeT tk n b g A (k + 1) = madeT tk n b g A k ++ [(rowT tk n A k,mhit b g (fun j=>(askAt A j).2.2) k)]:=by
 unfold madeT
 rw [List.range_succ,List.map_append]
 rfl
theorem madeT_at (k j:Nat) (h:j < (madeT tk n b g A k).length):(madeT tk n b g A k)[j] = (rowT tk n A j,mhit b g (fun j=>(askAt A j).2.2) j):=by simp [madeT]
theorem rowT_len (t:Nat):(rowT tk n A t).length ≤ n:=relK_len _ _ _ _ _
theorem madeT_few (k:Nat):relsN (madeT tk n b g A k) ≤ k * n:=by
 induction k with
 | zero=>simp [madeT,relsN]
 | succ k ih =>
  rw [madeT_succ,show relsN (madeT tk n b g A k ++ [(rowT tk n A k,mhit b g (fun j=>(askAt A j).2.2) k)]) = relsN (madeT tk n b g A k) + (rowT tk n A k).length by simp [relsN]]
  have:=rowT_len tk n A k
  rw [Nat.add_mul];omega
end
def RowIn (w:World) (T:Nat → Prop) (x:Value) (rs:List (Int × Int)):Prop :=
 ∃ aj cj,x = .slice aj rs.length cj ∧ (0 < rs.length → ∃ b off,aj = some ⟨b,off,none⟩ ∧ b < w.heap.size ∧ ¬ T b ∧ ∀ j (h:j < rs.length),w.cell? ⟨b,off + j * 2,none⟩ = some (.int .i64 rs[j].1) ∧ w.cell? ⟨b,off + j * 2 + 1,none⟩ = some (.int .i64 rs[j].2))
theorem RowIn.keep {w w':World} {S T:Nat → Prop} {x:Value} {rs:List (Int × Int)} (h:RowIn w T x rs) (hf:Fr S w w') (hS:∀ b,b < w.heap.size → S b → T b):RowIn w' T x rs:=by
 obtain ⟨aj,cj,e,h⟩:=h
 refine ⟨aj,cj,e,fun h0=>?_⟩
 obtain ⟨b,off,e,hlt,hT,hc⟩:=h h0
 exact ⟨b,off,e,Nat.lt_of_lt_of_le hlt hf.size,hT,fun j hj=>⟨(hf.cell (p:=⟨b,off + j * 2,none⟩) hlt (fun t=>hT (hS b hlt t))).trans (hc j hj).1,(hf.cell (p:=⟨b,off + j * 2 + 1,none⟩) hlt (fun t=>hT (hS b hlt t))).trans (hc j hj).2⟩⟩
theorem RowIn.less {w:World} {T T':Nat → Prop} {x:Value} {rs:List (Int × Int)} (h:RowIn w T x rs) (hS:∀ b,b < w.heap.size → T' b → T b):RowIn w T' x rs:=by
 obtain ⟨aj,cj,e,h⟩:=h
 refine ⟨aj,cj,e,fun h0=>?_⟩
 obtain ⟨b,off,e,hlt,hT,hc⟩:=h h0
 exact ⟨b,off,e,hlt,fun t=>hT (hS b hlt t),hc⟩
def prc (x:Int × Int):List Value:=[.int .i64 x.1,.int .i64 x.2]
theorem RowIn.of_own {w:World} {base:Nat} {T:Nat → Prop} {x:Value} {rs:List (Int × Int)} (h:w.ownsRow base 79 2 x rs.length (rs.flatMap prc)) (hT:∀ b,x.ownBlock = some b → ¬ T b):RowIn w T x rs:=by
 obtain ⟨a,c,rfl⟩:=ownsRow_form h
 refine ⟨a,c,rfl,fun h0=>?_⟩
 obtain ⟨g,cap,hv,hg1,hg2,hg3,hg4,hg5⟩:=ownsRow_cells h h0
 cases hv
 refine ⟨g,0,rfl,hg2,hT g rfl,fun j hj=>?_⟩
 have e0:=flatMap_at prc 2 (fun _=>rfl) rs j 0 hj (by omega)
 have e1:=flatMap_at prc 2 (fun _=>rfl) rs j 1 hj (by omega)
 refine ⟨?_,?_⟩
 ·have:=hg4 _ _ (e0.trans rfl)
  simpa using this
 ·have:=hg4 _ _ (e1.trans rfl)
  simpa [Nat.add_assoc] using this
def inc (x:Value × List (Int × Int) × Bool):List Value:=[x.1,.bool x.2.2]
def OutW (base:Nat) (w:World) (g:Nat) (v:Value) (L:List (List (Int × Int) × Bool)):Prop :=
 ∃ X:List (Value × List (Int × Int) × Bool),X.map (·.2) = L ∧ w.ownsRow base 55 2 v L.length (X.flatMap inc) ∧ ∀ x ∈ X,RowIn w (fun b=>b = g ∨ v.ownBlock = some b) x.1 x.2.1
theorem OutW.keep {base g:Nat} {w w':World} {v:Value} {L:List (List (Int × Int) × Bool)} (h:OutW base w g v L) (hf:Fr (fun b=>b = g) w w') (hg:v.ownBlock ≠ some g):OutW base w' g v L:=by
 obtain ⟨X,e,ho,hx⟩:=h
 exact ⟨X,e,own_fr2 ho hf (fun k hk e=>hg (e ▸ hk)),fun x hx'=>(hx x hx').keep hf (fun b _ e=>.inl e)⟩
theorem OutW.ins {base g:Nat} {w:World} {v:Value} {L:List (List (Int × Int) × Bool)} (h:OutW base w g v L):∃ a c,v = .slice a L.length c ∧ InsIn w.heap.size w a L:=by
 obtain ⟨X,e,ho,hx⟩:=h
 obtain ⟨a,c,rfl⟩:=ownsRow_form ho
 refine ⟨a,c,rfl,fun h0=>?_⟩
 obtain ⟨g,cap,hv,hg1,hg2,hg3,hg4,hg5⟩:=ownsRow_cells ho h0
 cases hv
 refine ⟨g,0,rfl,hg2,fun j hj=>?_⟩
 subst e
 have hjX:j < X.length:=by simpa using hj
 have e0:=flatMap_at inc 2 (fun _=>rfl) X j 0 hjX (by omega)
 have e1:=flatMap_at inc 2 (fun _=>rfl) X j 1 hjX (by omega)
 obtain ⟨aj,cj,ex,hr⟩:=hx X[j] (List.getElem_mem hjX)
 have c0:=hg4 _ _ (e0.trans rfl)
 have c1:=hg4 _ _ (e1.trans rfl)
 rw [ex] at c0
 refine ⟨aj,cj,by simpa using c0,by simpa [Nat.add_assoc] using c1,fun h0=>?_⟩
 have h0':0 < X[j].2.1.length:=by simpa using h0
 obtain ⟨b,off,e,hlt,_,hc⟩:=hr h0'
 exact ⟨b,off,e,hlt,fun i hi=>by simpa using hc i (by simpa using hi)⟩
end
end Go.Proofs.YtnoahekcemfmcaaGreatDoor
