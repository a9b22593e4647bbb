/- A part of the walk: Core Wk. -/
import Derived.WalkKit
import Derived.WalkSpells
import Derived.WalkLawsBesides
import Derived.Lib.Hide
import Derived.Deep.AppendLies
import Derived.Laws.Rows
import Derived.Deep.RegionHeld3
namespace Go.Proofs.YtnoahekcemfmcaaGreatDoor
set_option linter.unusedVariables false
set_option linter.unusedSimpArgs false
set_option maxHeartbeats 80000000
set_option maxRecDepth 100000
section
open Go.RowKit
structure Fr (S:Nat → Prop) (w w':World):Prop where
 os:w'.os = w.os
 tape:w'.tape = w.tape
 output:w'.output = w.output
 size:w.heap.size ≤ w'.heap.size
 block:∀ k,k < w.heap.size → ¬ S k → w'.heap[k]? = w.heap[k]?
theorem Fr.refl (S:Nat → Prop) (w:World):Fr S w w:=⟨rfl,rfl,rfl,Nat.le_refl _,fun _ _ _=>rfl⟩
theorem Fr.trans {S T U:Nat → Prop} {a b c:World} (h:Fr S a b) (k:Fr T b c) (hS:∀ i,i < a.heap.size → S i → U i) (hT:∀ i,i < a.heap.size → T i → U i):Fr U a c :=
 ⟨k.os.trans h.os,k.tape.trans h.tape,k.output.trans h.output,Nat.le_trans h.size k.size,fun i hi hu =>
  (k.block i (Nat.lt_of_lt_of_le hi h.size) (fun ht=>hu (hT i hi ht))).trans (h.block i hi (fun hs=>hu (hS i hi hs)))⟩
theorem Fr.below {S:Nat → Prop} {w w':World} {B:Nat} (h:Fr S w w') (hS:∀ i,i < w.heap.size → S i → B ≤ i) (hB:B ≤ w.heap.size):Below B w w' :=
 ⟨h.os,h.tape,h.output,h.size,fun k hk=>h.block k (by omega) (fun hs=>by have:=hS k (by omega) hs;omega)⟩
theorem Fr.of_below {S:Nat → Prop} {w w':World} (h:Below w.heap.size w w'):Fr S w w':=⟨h.os,h.tape,h.output,h.size,fun k hk _=>h.block k hk⟩
theorem Fr.setCell {S:Nat → Prop} {a w:World} (h:Fr S a w) {p:Addr} (hp:S p.block) (u:Value):Fr S a (w.setCell p u) :=
 ⟨h.os,h.tape,h.output,by simpa [World.setCell] using h.size,fun k hk hs=>by
  rw [Below.heap_setCell _ _ _ _ (fun e=>hs (by subst e;exact hp))];exact h.block k hk hs⟩
theorem Fr.alloc {S:Nat → Prop} {a w:World} (h:Fr S a w) (o:Obj):Fr S a (w.alloc o) :=
 ⟨h.os,h.tape,h.output,by simpa using Nat.le_succ_of_le h.size,fun k hk hs=>by
  rw [Below.heap_alloc _ _ _ (Nat.lt_of_lt_of_le hk h.size)];exact h.block k hk hs⟩
theorem Fr.drew {S:Nat → Prop} {a w:World} (h:Fr S a w):Fr S a w.drew:=⟨h.os,h.tape,h.output,h.size,h.block⟩
theorem Fr.cell {S:Nat → Prop} {w w':World} (h:Fr S w w') {p:Addr} (hp:p.block < w.heap.size) (hs:¬ S p.block):w'.cell? p = w.cell? p:=World.cell?_of_block (w:=w) (h.block p.block hp hs)
theorem Fr.frozen {S:Nat → Prop} {w w':World} (h:Fr S w w') {p:Addr} (hp:p.block < w.heap.size) (hs:¬ S p.block):w'.frozen? p = w.frozen? p:=World.frozen?_of_block (w:=w) (h.block p.block hp hs)
theorem flatMap_at {α β:Type} (f:α → List β) (k:Nat) (hf:∀ x,(f x).length = k) (l:List α) (i j:Nat) (hi:i < l.length) (hj:j < k) :
  (l.flatMap f)[i * k + j]? = (f l[i])[j]?:=by
 induction l generalizing i with
 | nil=>simp at hi
 | cons x l ih =>
  rw [List.flatMap_cons]
  cases i with
  | zero =>
   rw [Nat.zero_mul,Nat.zero_add,List.getElem?_append_left (by rw [hf];exact hj)]
   rfl
  | succ i =>
   have hi':i < l.length:=by simpa using hi
   rw [List.getElem?_append_right (by rw [hf,Nat.succ_mul];omega),hf,show (i + 1) * k + j - k = i * k + j from by rw [Nat.succ_mul];omega]
   exact ih i hi'
theorem ownsRow_cells {w:World} {base e size:Nat} {v:Value} {n:Nat} {xs:List Value} (h:w.ownsRow base e size v n xs) (hn:0 < n) :
  ∃ g cap,v = .slice (some ⟨g,0,none⟩) n cap ∧ base ≤ g ∧ g < w.heap.size ∧ n ≤ cap ∧ (∀ j u,xs[j]? = some u → w.cell? ⟨g,j,none⟩ = some u) ∧ ∀ o,w.frozen? ⟨g,o,none⟩ = false:=by
 obtain ⟨h1,h2⟩:=h
 rcases h2 with ⟨_,h0⟩ | ⟨g,cap,cur,hv,hb,hh,hc,hm,hs,ht⟩
 ·omega
 ·refine ⟨g,cap,hv,hb,?_,hc,?_,?_⟩
  ·rcases Nat.lt_or_ge g w.heap.size with h | h
   ·exact h
   ·rw [Array.getElem?_eq_none h] at hh;simp at hh
  ·intro j u hu
   rw [← ht,List.getElem?_take] at hu
   split at hu
   ·simp only [World.cell?,hh]
    simpa using hu
   ·simp at hu
  ·intro o
   simp [World.frozen?,hh]
theorem ownsRow_block {w:World} {base e size:Nat} {v:Value} {n:Nat} {xs:List Value} (h:w.ownsRow base e size v n xs) (k:Nat) (hk:v.ownBlock = some k):base ≤ k:=by
 rcases h.2 with ⟨rfl,_⟩ | ⟨g,cap,cur,rfl,hb,_⟩
 ·simp [Value.ownBlock] at hk
 ·simp [Value.ownBlock] at hk;omega
theorem cell_new (w:World) (cs:Array Value) (T:TypeId) (j:Nat) (u:Value) (h:cs.toList[j]? = some u):(w.alloc (.cells cs T)).cell? ((⟨w.heap.size,0,none⟩:Addr).add j) = some u:=by
 have e:((⟨w.heap.size,0,none⟩:Addr).add j) = ⟨w.heap.size,j,none⟩:=by
  unfold Addr.add;split
  ·rename_i h0;subst h0;rfl
  ·simp
 rw [e]
 have h':cs[j]? = some u:=by simpa using h
 show (match (w.heap.push (.cells cs T))[w.heap.size]? with | some (.cells c _ _)=>if (none:Option Nat).isSome then none else c[j]? | _=>none) = some u
 simp [h']
theorem block_lt {w:World} {a:Addr} {v:Value} (h:w.cell? a = some v):a.block < w.heap.size:=by
 rcases Nat.lt_or_ge a.block w.heap.size with h' | h'
 ·exact h'
 ·simp [World.cell?,Array.getElem?_eq_none h'] at h
theorem add_none (b off j:Nat):(⟨b,off,none⟩:Addr).add j = ⟨b,off + j,none⟩:=by
 unfold Addr.add;split
 ·rename_i h;subst h;rfl
 ·rfl
theorem cell_newb (w:World) (cs:Array Value) (T:TypeId) (b j:Nat) (u:Value) (hb:b = w.heap.size) (h:cs.toList[j]? = some u):(w.alloc (.cells cs T)).cell? ⟨b,j,none⟩ = some u:=by
 subst hb
 have:=cell_new w cs T j u h
 rwa [add_none,Nat.zero_add] at this
theorem Fr.drewN {S:Nat → Prop} {a w:World} (h:Fr S a w) (n:Nat):Fr S a (w.drewN n):=⟨h.os,h.tape,h.output,h.size,h.block⟩
theorem Fr.mono {S T:Nat → Prop} {w w':World} (h:Fr S w w') (hS:∀ i,i < w.heap.size → S i → T i):Fr T w w':=⟨h.os,h.tape,h.output,h.size,fun k hk ht=>h.block k hk (fun hs=>ht (hS k hk hs))⟩
theorem ownsRow_form {w:World} {base e size:Nat} {v:Value} {n:Nat} {xs:List Value} (h:w.ownsRow base e size v n xs):∃ a cap,v = .slice a n cap:=by
 rcases h.2 with ⟨rfl,rfl⟩ | ⟨g,cap,cur,rfl,_⟩
 ·exact ⟨_,_,rfl⟩
 ·exact ⟨_,_,rfl⟩
theorem ownsRow_lt {w:World} {base e size:Nat} {v:Value} {n:Nat} {xs:List Value} (h:w.ownsRow base e size v n xs) (k:Nat) (hk:v.ownBlock = some k):k < w.heap.size:=by
 rcases h.2 with ⟨rfl,_⟩ | ⟨g,cap,cur,rfl,hb,hh,_⟩
 ·simp [Value.ownBlock] at hk
 ·simp [Value.ownBlock] at hk
  subst hk
  rcases Nat.lt_or_ge g w.heap.size with h | h
  ·exact h
  ·rw [Array.getElem?_eq_none h] at hh;simp at hh
theorem ownsRow_keep {w w':World} {base e size:Nat} {v:Value} {n:Nat} {xs:List Value} (h:w.ownsRow base e size v n xs) (hk:∀ k,v.ownBlock = some k → w'.heap[k]? = w.heap[k]?):w'.ownsRow base e size v n xs:=by
 refine ⟨h.1,?_⟩
 rcases h.2 with h2 | ⟨g,cap,cur,rfl,hb,hh,r⟩
 ·exact .inl h2
 ·exact .inr ⟨g,cap,cur,rfl,hb,(hk g rfl).trans hh,r⟩
theorem ownsRow_base {w:World} {base base' e size:Nat} {v:Value} {n:Nat} {xs:List Value} (h:w.ownsRow base e size v n xs) (hb:base' ≤ base):w.ownsRow base' e size v n xs:=by
 refine ⟨h.1,?_⟩
 rcases h.2 with h2 | ⟨g,cap,cur,rfl,hb',r⟩
 ·exact .inl h2
 ·exact .inr ⟨g,cap,cur,rfl,Nat.le_trans hb hb',r⟩
theorem grown_keep {w W w':World} {row:Option Nat} {p:Nat} (hg:W.grownBy w' row) (hW:Fr (fun _=>False) w W) (hp:p < w.heap.size) (hr:row ≠ some p) (i:Nat) :
  w'.cell? ⟨p,i,none⟩ = w.cell? ⟨p,i,none⟩ ∧ w'.frozen? ⟨p,i,none⟩ = w.frozen? ⟨p,i,none⟩:=by
 have hb:w'.heap[p]? = w.heap[p]?:=(hg.block p (Nat.lt_of_lt_of_le hp hW.size) (fun e=>hr e.symm)).trans (hW.block p hp (by simp))
 exact ⟨World.cell?_of_block (a:=⟨p,i,none⟩) hb,World.frozen?_of_block (a:=⟨p,i,none⟩) hb⟩
theorem Fr.grown {S:Nat → Prop} {a w w':World} {row:Option Nat} (h:Fr S a w) (hg:w.grownBy w' row) (hr:∀ g,row = some g → g < a.heap.size → S g):Fr S a w' :=
 ⟨hg.os.trans h.os,hg.tape.trans h.tape,hg.output.trans h.output,Nat.le_trans h.size hg.size,fun k hk hs=>by
  refine (hg.block k (Nat.lt_of_lt_of_le hk h.size) (fun e=>hs (hr k e.symm hk))).trans (h.block k hk hs)⟩
theorem addr_ne {b:Nat} {x y:Nat} (h:x ≠ y):(⟨b,x,none⟩:Addr) ≠ ⟨b,y,none⟩:=fun e=>h (by cases e;rfl)
theorem addr_ne' {a b:Nat} {x y:Nat} (h:a ≠ b):(⟨a,x,none⟩:Addr) ≠ ⟨b,y,none⟩:=fun e=>h (by cases e;rfl)
theorem ret_bool {a b:Bool} (h:a = b):Ending.returned (.bool a) = .returned (.bool b):=by rw [h]
theorem ret_int {k:IntKind} {a b:Int} (h:a = b):Ending.returned (.int k a) = .returned (.int k b):=by rw [h]
theorem bel_drew {B:Nat} {w w':World} (h:Below B w w'):Below B w w'.drew:=h.trans ⟨rfl,rfl,rfl,Nat.le_refl _,fun _ _=>rfl⟩
theorem bel_drewN {B:Nat} {w w':World} (h:Below B w w') (n:Nat):Below B w (w'.drewN n):=h.trans ⟨rfl,rfl,rfl,Nat.le_refl _,fun _ _=>rfl⟩
theorem bel_alloc {w0 w:World} (h:Below w0.heap.size w0 w) (o:Obj):Below w0.heap.size w0 (w.alloc o):=h.alloc h.size o
abbrev Q:Type:=Int × Int × Int × Int
def qv (x:Q):Value:=.agg #[.int .i64 x.1,.int .i64 x.2.1,.int .i64 x.2.2.1,.int .i64 x.2.2.2]
def qc (x:Q):List Value:=[.int .i64 x.1,.int .i64 x.2.1,.int .i64 x.2.2.1,.int .i64 x.2.2.2]
theorem qc_length (x:Q):(qc x).length = 4:=rfl
theorem flat_length (l:List Q):(l.flatMap qc).length = l.length * 4:=by
 induction l with
 | nil=>rfl
 | cons x l ih=>simp [List.flatMap_cons,qc_length,ih];omega
structure Q4 (w:World) (b o:Nat) (x:Q):Prop where
 c0:w.cell? ⟨b,o,none⟩ = some (.int .i64 x.1)
 c1:w.cell? ⟨b,o + 1,none⟩ = some (.int .i64 x.2.1)
 c2:w.cell? ⟨b,o + 2,none⟩ = some (.int .i64 x.2.2.1)
 c3:w.cell? ⟨b,o + 3,none⟩ = some (.int .i64 x.2.2.2)
theorem Q4.of_fr {F:Nat → Prop} {w w':World} {b o:Nat} {x:Q} (h:Q4 w b o x) (hf:Fr F w w') (hF:¬ F b):Q4 w' b o x:=by
 have hb:b < w.heap.size:=block_lt (a:=⟨b,o,none⟩) h.c0
 exact ⟨(hf.cell (p:=⟨b,o,none⟩) hb hF).trans h.c0,(hf.cell (p:=⟨b,o + 1,none⟩) hb hF).trans h.c1,(hf.cell (p:=⟨b,o + 2,none⟩) hb hF).trans h.c2,(hf.cell (p:=⟨b,o + 3,none⟩) hb hF).trans h.c3⟩
theorem Q4.below {w w':World} {b o:Nat} {x:Q} (h:Q4 w b o x) (hb:Below w.heap.size w w'):Q4 w' b o x:=h.of_fr (F:=fun _=>False) (Fr.of_below hb) (by simp)
def QsIn (B:Nat) (w:World) (a:Option Addr) (n:Nat) (xs:List Q):Prop :=
 xs.length = n ∧ (0 < n → ∃ b off,a = some ⟨b,off,none⟩ ∧ b < B ∧ ∀ j (h:j < xs.length),Q4 w b (off + j * 4) xs[j])
theorem QsIn.keep {w w':World} {a:Option Addr} {n B:Nat} {xs:List Q} (h:QsIn B w a n xs) (hb:Below B w w'):QsIn B w' a n xs :=
 ⟨h.1,fun hn=>by
  obtain ⟨b,off,e,hlt,hc⟩:=h.2 hn
  exact ⟨b,off,e,hlt,fun j hj=>by
   have q:=hc j hj
   exact ⟨(hb.cell (p:=⟨b,_,none⟩) hlt).trans q.c0,(hb.cell (p:=⟨b,_,none⟩) hlt).trans q.c1,(hb.cell (p:=⟨b,_,none⟩) hlt).trans q.c2,(hb.cell (p:=⟨b,_,none⟩) hlt).trans q.c3⟩⟩⟩
theorem flat_at (l:List Q) (j k:Nat) (hj:j < l.length) (hk:k < 4):(l.flatMap qc)[j * 4 + k]? = (qc l[j])[k]?:=flatMap_at qc 4 qc_length l j k hj hk
theorem qs_of_own {w:World} {base e n:Nat} {a:Option Addr} {cap:Nat} {l:List Q} (h:w.ownsRow base e 4 (.slice a n cap) l.length (l.flatMap qc)) (hn:n = l.length):QsIn w.heap.size w a n l:=by
 refine ⟨hn.symm,fun h0=>?_⟩
 obtain ⟨g,cap',hv,_,hlt,_,hc,_⟩:=ownsRow_cells h (by omega)
 simp at hv
 obtain ⟨rfl,_⟩:=hv
 refine ⟨g,0,rfl,hlt,fun j hj=>?_⟩
 have:=fun k (hk:k < 4)=>flat_at l j k hj hk
 rw [Nat.zero_add]
 exact ⟨hc _ _ (this 0 (by omega)),hc _ _ (this 1 (by omega)),hc _ _ (this 2 (by omega)),hc _ _ (this 3 (by omega))⟩
def set4 (w:World) (b o:Nat) (x:Q):World:=(((w.setCell ⟨b,o,none⟩ (.int .i64 x.1)).setCell ⟨b,o + 1,none⟩ (.int .i64 x.2.1)).setCell ⟨b,o + 2,none⟩ (.int .i64 x.2.2.1)).setCell ⟨b,o + 3,none⟩ (.int .i64 x.2.2.2)
theorem set4_fr (w:World) (b o:Nat) (x:Q):Fr (· = b) w (set4 w b o x) :=
 ((((Fr.refl (· = b) w).setCell (p:=⟨b,o,none⟩) rfl _).setCell (p:=⟨b,o + 1,none⟩) rfl _).setCell (p:=⟨b,o + 2,none⟩) rfl _).setCell (p:=⟨b,o + 3,none⟩) rfl _
theorem set4_size (w:World) (b o:Nat) (x:Q):(set4 w b o x).heap.size = w.heap.size:=by simp [set4,World.setCell]
theorem set4_list (cur:List Value) (i n:Nat) (l:List Q) (x:Q) (hl:l.length = n) (hi:i < n) (hc:cur.take (n * 4) = l.flatMap qc) (hsz:n * 4 ≤ cur.length) :
  ((((cur.set (i * 4) (.int .i64 x.1)).set (i * 4 + 1) (.int .i64 x.2.1)).set (i * 4 + 2) (.int .i64 x.2.2.1)).set (i * 4 + 3) (.int .i64 x.2.2.2)).take (n * 4) = (l.set i x).flatMap qc:=by
 apply List.ext_getElem?
 intro j
 by_cases hj:j < n * 4
 ·have hjn:j / 4 < (l.set i x).length:=by rw [List.length_set];omega
  have hjn':j / 4 < l.length:=by omega
  have hc':cur[j]? = (l.flatMap qc)[j]?:=by rw [← hc,List.getElem?_take_of_lt hj]
  have ef:((l.set i x).flatMap qc)[j]? = (qc ((l.set i x)[j / 4]))[j % 4]?:=by
   have:=flat_at (l.set i x) (j / 4) (j % 4) hjn (by omega)
   rwa [show j / 4 * 4 + j % 4 = j by omega] at this
  have eo:(l.flatMap qc)[j]? = (qc (l[j / 4]))[j % 4]?:=by
   have:=flat_at l (j / 4) (j % 4) hjn' (by omega)
   rwa [show j / 4 * 4 + j % 4 = j by omega] at this
  rw [List.getElem?_take_of_lt hj,ef]
  by_cases hij:j / 4 = i
  ·have hx:(l.set i x)[j / 4] = x:=by
    have:=List.getElem_set (l:=l) (i:=i) (a:=x) (j:=j / 4) hjn
    rw [this,if_pos hij.symm]
   rw [hx]
   have hb:i * 4 + 3 < cur.length:=by omega
   have:j = i * 4 ∨ j = i * 4 + 1 ∨ j = i * 4 + 2 ∨ j = i * 4 + 3:=by omega
   rcases this with rfl | rfl | rfl | rfl
   ·rw [List.getElem?_set_ne (by omega),List.getElem?_set_ne (by omega),List.getElem?_set_ne (by omega),List.getElem?_set_self (by omega),show i * 4 % 4 = 0 by omega];rfl
   ·rw [List.getElem?_set_ne (by omega),List.getElem?_set_ne (by omega),List.getElem?_set_self (by simp;omega),show (i * 4 + 1) % 4 = 1 by omega];rfl
   ·rw [List.getElem?_set_ne (by omega),List.getElem?_set_self (by simp;omega),show (i * 4 + 2) % 4 = 2 by omega];rfl
   ·rw [List.getElem?_set_self (by simp;omega),show (i * 4 + 3) % 4 = 3 by omega];rfl
  ·have hx:(l.set i x)[j / 4] = l[j / 4]:=by
    have:=List.getElem_set (l:=l) (i:=i) (a:=x) (j:=j / 4) hjn
    rw [this,if_neg (fun e=>hij e.symm)]
   rw [hx,← eo,← hc',List.getElem?_set_ne (by omega),List.getElem?_set_ne (by omega),List.getElem?_set_ne (by omega),List.getElem?_set_ne (by omega)]
 ·rw [List.getElem?_take_eq_none (by omega),List.getElem?_eq_none (by rw [flat_length,List.length_set];omega)]
theorem ownsRow_set4 {w:World} {base e cap g:Nat} {n:Nat} {l:List Q} (h:w.ownsRow base e 4 (.slice (some ⟨g,0,none⟩) n cap) n (l.flatMap qc)) (hl:l.length = n) (i:Nat) (hi:i < n) (x:Q) :
  (set4 w g (i * 4) x).ownsRow base e 4 (.slice (some ⟨g,0,none⟩) n cap) n ((l.set i x).flatMap qc):=by
 obtain ⟨h1,h2⟩:=h
 refine ⟨by rw [flat_length,List.length_set,hl],?_⟩
 rcases h2 with ⟨hv,_⟩ | ⟨g',cap',cur,hv,hb,hh,hc,hm,hs,ht⟩
 ·simp at hv
 ·simp only [Value.slice.injEq,Option.some.injEq,Addr.mk.injEq,true_and,and_true] at hv
  obtain ⟨rfl,rfl⟩:=hv
  have hsz:n * 4 ≤ cur.toList.length:=by
   have:n * 4 ≤ cap * 4:=by omega
   simpa [hs] using this
  refine .inr ⟨g,cap,(((cur.setIfInBounds (i * 4) (.int .i64 x.1)).setIfInBounds (i * 4 + 1) (.int .i64 x.2.1)).setIfInBounds (i * 4 + 2) (.int .i64 x.2.2.1)).setIfInBounds (i * 4 + 3) (.int .i64 x.2.2.2),rfl,hb,?_,hc,hm,by simpa using hs,?_⟩
  ·unfold set4
   exact heap_setCell_same _ _ _ _ _ _ (heap_setCell_same _ _ _ _ _ _ (heap_setCell_same _ _ _ _ _ _ (heap_setCell_same _ _ _ _ _ _ hh)))
  ·simp only [Array.toList_setIfInBounds]
   exact set4_list cur.toList i n l x hl hi ht hsz
theorem ownsRow_prefix {w:World} {base e cap g:Nat} {n k:Nat} {l:List Q} (h:w.ownsRow base e 4 (.slice (some ⟨g,0,none⟩) n cap) n (l.flatMap qc)) (hl:l.length = n) (hk:k ≤ n) :
  w.ownsRow base e 4 (.slice (some ⟨g,0,none⟩) k cap) k ((l.take k).flatMap qc):=by
 obtain ⟨h1,h2⟩:=h
 refine ⟨by rw [flat_length,List.length_take,hl,Nat.min_eq_left hk],?_⟩
 rcases h2 with ⟨hv,_⟩ | ⟨g',cap',cur,hv,hb,hh,hc,hm,hs,ht⟩
 ·simp at hv
 ·simp only [Value.slice.injEq,Option.some.injEq,Addr.mk.injEq,true_and,and_true] at hv
  obtain ⟨rfl,rfl⟩:=hv
  refine .inr ⟨g,cap,cur,rfl,hb,hh,by omega,hm,hs,?_⟩
  have e1:(l.take k).flatMap qc = (l.flatMap qc).take (k * 4):=by
   have e:l.flatMap qc = (l.take k).flatMap qc ++ (l.drop k).flatMap qc:=by rw [← List.flatMap_append,List.take_append_drop]
   have hlen:((l.take k).flatMap qc).length = k * 4:=by rw [flat_length,List.length_take,hl,Nat.min_eq_left hk]
   have h3:((l.take k).flatMap qc ++ (l.drop k).flatMap qc).take (k * 4) = (l.take k).flatMap qc:=by
    rw [← hlen,List.take_left']
    rfl
   rw [e,h3]
  rw [e1,← ht,List.take_take,Nat.min_eq_left (by omega)]
end
section
open Go.RowKit
section
variable {P:Program} {ops:Array Oper} {Q:Exit → Act → World → Prop} {md:Region.Mode} {S:World → Prop}
theorem wtk {i:Nat} {oi:Oper} {v:Value} {fuel:Nat} {listed:Array Bool} {a:Act} {w:World}
  (h:wpAnyH P md ops Q S fuel (listed.setIfInBounds i true) (a.put oi.dst v) w)
  (hi:ops[i]? = some oi:=by (simp only [List.getElem?_toArray,List.getElem?_cons_succ,List.getElem?_cons_zero];rfl))
  (hs:Region.noSelect ops = true:=by kernel_rfl) (hf:Region.free md ops listed i = true:=by kernel_rfl) (hr:(Region.ready md ops listed).contains i = true:=by kernel_rfl)
  (hw:Region.wanted oi (yielded ops a.tmps) = true:=by rfl)
  (hQ:∀ c a w,Q (.panic c) (a.put oi.dst v) w → Q (.panic c) a w:=by exact fun _ _ _ h=>h)
  (hS:S w:=by assumption)
  (hy:∀ w,S w → (execOp a.eval oi).run P w = .ok (.value v) w:=by (intro wS hSw;(try dsimp only at hSw);go_simp;try with_reducible rfl)):wpAnyH P md ops Q S (fuel + 1) listed a w :=
 wpAnyH_take hi hs hf hr hQ (.inl ⟨hw,hy⟩) hS h
theorem wun {i:Nat} {oi:Oper} {fuel:Nat} {listed:Array Bool} {a:Act} {w:World}
  (h:wpAnyH P md ops Q S fuel (listed.setIfInBounds i true) (a.put oi.dst undef) w)
  (hi:ops[i]? = some oi:=by (simp only [List.getElem?_toArray,List.getElem?_cons_succ,List.getElem?_cons_zero];rfl))
  (hs:Region.noSelect ops = true:=by kernel_rfl) (hf:Region.free md ops listed i = true:=by kernel_rfl) (hr:(Region.ready md ops listed).contains i = true:=by kernel_rfl)
  (hw:Region.wanted oi (yielded ops a.tmps) = false:=by rfl)
  (hQ:∀ c a w,Q (.panic c) (a.put oi.dst undef) w → Q (.panic c) a w:=by exact fun _ _ _ h=>h)
  (hS:S w:=by assumption):wpAnyH P md ops Q S (fuel + 1) listed a w :=
 wpAnyH_take hi hs hf hr hQ (.inr ⟨hw,rfl⟩) hS h
theorem arc {fuel:Nat} {listed:Array Bool} {a:Act} {w:World} {i:Nat} {o:Oper} {rs:List Nat}
  (h:∀ K':Act → World → Prop,Shut (∀ a w,S w → (S w → wpAnyH P md ops Q S fuel (listed.setIfInBounds i true) a w) → K' a w) → if Region.wanted o (yielded ops a.tmps) = true then Oper.wp P o a w K' Q else K' (a.put o.dst undef) w)
  (hs:AllReadyH P md ops Q S fuel listed a w rs) (ho:ops[i]? = some o:=by (simp only [List.getElem?_toArray,List.getElem?_cons_succ,List.getElem?_cons_zero];rfl)):AllReadyH P md ops Q S fuel listed a w (i :: rs) :=
 AllReadyH.cons ho h hs
end
end
end Go.Proofs.YtnoahekcemfmcaaGreatDoor
