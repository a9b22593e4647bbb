/- A part of the walk: Sched Sched2. -/
namespace Go.Proofs.YtnoahekcemfmcaaGreatDoor
set_option linter.unusedVariables false
set_option linter.unusedSimpArgs false
set_option maxHeartbeats 80000000
set_option maxRecDepth 100000
section
structure Tk where
 nm:ByteArray
 T:Int
 D:Int
 C:Int
 A:Int
 Seg:Int
 Cost:Int
 M:Int
 K:Int
 Mode:Int
 Prio:Int
structure Tk.Ok (t:Tk):Prop where
 c1:1 ≤ t.C
 cd:t.C ≤ t.D
 dt:t.D ≤ t.T
 tm:t.T ≤ 1048576
 k0:0 ≤ t.Cost
 k1:t.Cost ≤ 1000
 m1:1 ≤ t.Mode
 m3:t.Mode ≤ 3
 r1:t.Mode = 1 → 1 ≤ t.Seg ∧ t.Seg ≤ t.C ∧ t.A = 0
 r2:t.Mode ≠ 1 → 1 ≤ t.A ∧ t.A ≤ t.D ∧ t.Seg = 0
 f1:1 ≤ t.M
 f2:t.M ≤ t.K
 f3:t.K ≤ 64
 p0:0 ≤ t.Prio
 p1:t.Prio ≤ 255
structure Jb where
 no:Int
 rel:Nat
 must:Bool
 over:Bool
 begun:Bool
 dem:Int
 part:Int
 left:Int
 struck:Bool
 fails:Int
structure Ev where
 at_:Int
 what:Int
 task:Int
 job:Int
 band:Int
structure St where
 now:Nat
 job:Nat → Option Jb
 last:Int
 opn:Nat → Int
 cnt:Nat → Int
 win:Nat → List Bool
 dn:Nat → Int
def upd {α:Type} (f:Nat → α) (i:Nat) (v:α):Nat → α:=fun j=>if j = i then v else f j
theorem upd_self {α:Type} (f:Nat → α) (i:Nat) (v:α):upd f i v i = v:=by unfold upd;rw [if_pos rfl]
theorem upd_ne {α:Type} (f:Nat → α) {i j:Nat} (v:α) (h:j ≠ i):upd f i v j = f j:=by unfold upd;rw [if_neg h]
def plen (t:Tk) (d p:Int):Int:=if t.Mode = 1 then min (d - p * t.Seg) t.Seg + t.Cost else d + t.Cost
def np (t:Tk) (d:Int):Int:=if t.Mode = 1 then (d + t.Seg - 1) / t.Seg else 1
def cut (t:Tk) (d:Int):Int:=min (max d 1) t.C
def wholeT (t:Tk):Int:=if t.Mode = 1 then t.C + (t.C + t.Seg - 1) / t.Seg * t.Cost else t.C + t.Cost
def extraT (t:Tk):Int:=if t.Mode = 1 then t.Seg + t.Cost else t.A + t.Cost
def urg (t:Tk) (j:Jb):Bool:=decide (t.Mode = 3 ∧ j.part = 1)
def bandJ (t:Tk) (j:Jb):Int:=if j.must = false then 2 else if urg t j = true then 0 else 1
def rstep (t:Tk) (j:Jb) (hit:Bool):Jb × Int :=
 if 0 < j.left - 1 then ({ j with left:=j.left - 1,struck:=j.struck || hit },0)
 else if (j.struck || hit) = true then
  if t.Mode = 1 then ({ j with left:=plen t j.dem j.part,struck:=false,fails:=j.fails + 1 },2)
  else ({ j with part:=1,left:=t.A + t.Cost,struck:=false,fails:=j.fails + 1 },if t.Mode = 3 ∧ j.part ≠ 1 then 3 else 2)
 else if t.Mode ≠ 1 ∨ j.part = np t j.dem - 1 then ({ j with left:=j.left - 1,struck:=j.struck || hit },4)
 else ({ j with part:=j.part + 1,left:=plen t j.dem (j.part + 1),struck:=j.struck || hit },1)
def jstep (t:Tk) (j:Jb) (hit:Bool):Jb × Int :=
 let r:=rstep t j hit
 if r.2 = 4 ∧ j.over = true then ({ r.1 with begun:=true,struck:=true },2)
 else if (r.2 = 2 ∨ r.2 = 3) ∧ j.must = false then ({ r.1 with begun:=true,left:=0 },2)
 else ({ r.1 with begun:=true },r.2)
def cntT (l:List Bool):Int:=((l.filter id).length:Int)
def pushW (l:List Bool) (b:Bool):List Bool:=l.drop 1 ++ [b]
section
variable (tk:Nat → Tk) (n:Nat)
def tell (s:St) (what:Int) (i:Nat) (j:Jb):Ev:=⟨(s.now:Int),what,(i:Int),j.no,bandJ (tk i) j⟩
def gone (s:St) (i:Nat) (met:Bool):St:={ s with job:=upd s.job i none,win:=upd s.win i (pushW (s.win i) met),dn:=upd s.dn i (s.dn i + 1) }
def lateTo (s:St):Nat → St × List Ev
 | 0=>(s,[])
 | k + 1 =>
  match (lateTo s k).1.job k with
  | none=>lateTo s k
  | some j=>if (j.rel:Int) + (tk k).D ≤ s.now then (gone (lateTo s k).1 k false,(lateTo s k).2 ++ [tell tk (lateTo s k).1 9 k j]) else lateTo s k
def newJ (s:St) (i:Nat) (d:Int) (m:Bool):Jb :=
 { no:=s.cnt i,rel:=s.now,must:=m,over:=decide ((tk i).C < d),begun:=false,dem:=cut (tk i) d,part:=0,left:=plen (tk i) (cut (tk i) d) 0,struck:=false,fails:=0 }
def relS (s:St) (i:Nat) (d:Int) (m:Bool):St :=
 { s with job:=upd s.job i (some (newJ tk s i d m)),opn:=upd s.opn i ((s.now:Int) + (tk i).T),cnt:=upd s.cnt i (s.cnt i + 1) }
inductive Rel1 (s:St):Int × Int → St → List Ev → Prop
 | none (i d:Int) (h:i < 0 ∨ (n:Int) ≤ i):Rel1 s (i,d) s []
 | early (i:Nat) (d:Int) (h:i < n) (ho:(s.now:Int) < s.opn i):Rel1 s ((i:Int),d) s [⟨(s.now:Int),2,(i:Int),s.cnt i,2⟩]
 | good (i:Nat) (d:Int) (m:Bool) (h:i < n) (ho:s.opn i ≤ (s.now:Int)) (hm:m = false → (tk i).M ≤ cntT ((s.win i).drop 1)) :
   Rel1 s ((i:Int),d) (relS tk s i d m) [tell tk s 1 i (newJ tk s i d m)]
inductive Rels:St → List (Int × Int) → St → List Ev → Prop
 | nil (s:St):Rels s [] s []
 | cons {s s1 s2:St} {r:Int × Int} {rs:List (Int × Int)} {e1 e2:List Ev} (h1:Rel1 tk n s r s1 e1) (h2:Rels s1 rs s2 e2):Rels s (r :: rs) s2 (e1 ++ e2)
def before (s:St) (i:Nat) (a:Jb) (k:Nat) (b:Jb):Prop :=
 bandJ (tk i) a < bandJ (tk k) b ∨ bandJ (tk i) a = bandJ (tk k) b ∧ ((tk i).Prio < (tk k).Prio ∨ (tk i).Prio = (tk k).Prio ∧ (a.rel < b.rel ∨ a.rel = b.rel ∧ i < k))
def Top (s:St) (i:Nat) (j:Jb):Prop:=i < n ∧ s.job i = some j ∧ ∀ k b,k < n → k ≠ i → s.job k = some b → before tk s i j k b
def evStart (s:St) (i:Nat) (j:Jb):List Ev :=
 if j.begun = false then [tell tk s 3 i j] else if s.last ≠ (i:Int) then [tell tk s 4 i j] else []
def runOut (s:St) (i:Nat) (j:Jb) (what:Int):St × List Ev :=
 if what = 1 then (s,[tell tk s 5 i j])
 else if what = 3 then (s,[tell tk s 7 i j])
 else if what = 2 then
  if j.over = true ∧ j.struck = true ∧ j.left = 0 then (gone s i false,[tell tk s 10 i j])
  else if j.must = false then (gone s i false,[tell tk s 11 i j])
  else (s,[tell tk s 6 i j])
 else if what = 4 then (gone s i true,[tell tk s 8 i j])
 else (s,[])
def runS (s:St) (i:Nat) (j:Jb) (hit:Bool):St × List Ev :=
 let r:=jstep (tk i) j hit
 let o:=runOut tk { s with job:=upd s.job i (some r.1),last:=(i:Int) } i r.1 r.2
 (o.1,evStart tk s i j ++ o.2)
inductive Run1 (s:St) (hit:Bool):St → List Ev → Prop
 | none (h:∀ i,i < n → s.job i = Option.none):Run1 s hit { s with last:=-1 } []
 | some (i:Nat) (j:Jb) (h:Top tk n s i j):Run1 s hit (runS tk s i j hit).1 (runS tk s i j hit).2
inductive Tick1 (s:St) (rs:List (Int × Int)) (hit:Bool):St → List Ev → Prop
 | mk {s2 s3:St} {e2 e3:List Ev} (h2:Rels tk n (lateTo tk s n).1 rs s2 e2) (h3:Run1 tk n s2 hit s3 e3) :
   Tick1 s rs hit { s3 with now:=s3.now + 1 } ((lateTo tk s n).2 ++ (e2 ++ e3))
inductive Ticks:St → List (List (Int × Int) × Bool) → St → List Ev → Prop
 | nil (s:St):Ticks s [] s []
 | snoc {s s1 s2:St} {l:List (List (Int × Int) × Bool)} {x:List (Int × Int) × Bool} {e1 e2:List Ev} (h1:Ticks s l s1 e1) (h2:Tick1 tk n s1 x.1 x.2 s2 e2):Ticks s (l ++ [x]) s2 (e1 ++ e2)
def St0:St:={ now:=0,job:=fun _=>Option.none,last:=-1,opn:=fun _=>0,cnt:=fun _=>0,win:=fun i=>List.replicate (tk i).K.toNat true,dn:=fun _=>0 }
end
def remP (t:Tk) (d p:Int):Int:=if t.Mode = 1 then max 0 (d - (p + 1) * t.Seg) + (np t d - 1 - p) * t.Cost else 0
def penP (t:Tk) (d p:Int):Int:=if t.Mode = 1 then plen t d p else t.A + t.Cost
def bud (t:Tk) (j:Jb):Int:=j.left + remP t j.dem j.part + if j.struck = true then penP t j.dem j.part else 0
structure JbOk (t:Tk) (j:Jb):Prop where
 d1:1 ≤ j.dem
 dc:j.dem ≤ t.C
 l1:1 ≤ j.left
 p0:0 ≤ j.part
 pr:t.Mode = 1 → j.part < np t j.dem
 pb:t.Mode ≠ 1 → j.part = 0 ∨ j.part = 1
theorem np_pos {t:Tk} {d:Int} (ht:t.Ok) (hd:1 ≤ d):1 ≤ np t d:=by
 unfold np
 split
 ·rename_i h
  have:=(ht.r1 h).1
  rw [Int.le_ediv_iff_mul_le (by omega)];omega
 ·omega
theorem part_lt {t:Tk} {d p:Int} (ht:t.Ok) (hm:t.Mode = 1) (hp:p < np t d):p * t.Seg < d:=by
 unfold np at hp
 rw [if_pos hm] at hp
 have h1:=(ht.r1 hm).1
 have h2:(p + 1) * t.Seg ≤ d + t.Seg - 1:=(Int.le_ediv_iff_mul_le (by omega)).1 (by omega)
 rw [Int.add_mul,Int.one_mul] at h2
 omega
theorem part_ge {t:Tk} {d p:Int} (ht:t.Ok) (hm:t.Mode = 1) (hp:np t d ≤ p):d ≤ p * t.Seg:=by
 unfold np at hp
 rw [if_pos hm] at hp
 have h1:=(ht.r1 hm).1
 have h2:=(Int.ediv_lt_iff_lt_mul (a:=d + t.Seg - 1) (b:=p + 1) (by omega:0 < t.Seg)).1 (by omega)
 rw [Int.add_mul,Int.one_mul] at h2
 omega
theorem plen_pos {t:Tk} {d p:Int} (ht:t.Ok) (hd:1 ≤ d) (hp:t.Mode = 1 → p < np t d):1 ≤ plen t d p:=by
 unfold plen
 have:=ht.k0
 split
 ·rename_i h
  have h1:=part_lt ht h (hp h)
  have h2:=(ht.r1 h).1
  omega
 ·omega
theorem plen_le {t:Tk} {d p:Int} (ht:t.Ok) (hm:t.Mode = 1):plen t d p ≤ t.Seg + t.Cost:=by
 unfold plen
 rw [if_pos hm]
 omega
theorem rem_nonneg {t:Tk} {d p:Int} (ht:t.Ok) (hp:t.Mode = 1 → p < np t d):0 ≤ remP t d p:=by
 unfold remP
 split
 ·rename_i h
  have h1:0 ≤ (np t d - 1 - p) * t.Cost:=Int.mul_nonneg (by have:=hp h;omega) ht.k0
  omega
 ·omega
theorem rem_next {t:Tk} {d p:Int} (ht:t.Ok) (hm:t.Mode = 1) (hp:p + 1 < np t d):remP t d p = plen t d (p + 1) + remP t d (p + 1):=by
 unfold remP plen
 simp only [if_pos hm]
 have h1:=part_lt ht hm hp
 have h2:=(ht.r1 hm).1
 have e1:(p + 1 + 1) * t.Seg = (p + 1) * t.Seg + t.Seg:=by rw [Int.add_mul (p + 1),Int.one_mul]
 have e2:(np t d - 1 - p) * t.Cost = (np t d - 1 - (p + 1)) * t.Cost + t.Cost:=by
  rw [show np t d - 1 - p = (np t d - 1 - (p + 1)) + 1 by omega,Int.add_mul,Int.one_mul]
 rw [e1,e2]
 generalize (p + 1) * t.Seg = e at *
 generalize (np t d - 1 - (p + 1)) * t.Cost = f at *
 omega
theorem pen_le {t:Tk} {d p:Int} (ht:t.Ok):penP t d p ≤ extraT t:=by
 unfold penP extraT
 split
 ·exact plen_le ht (by assumption)
 ·omega
theorem pen_nonneg {t:Tk} {d p:Int} (ht:t.Ok) (hd:1 ≤ d) (hp:t.Mode = 1 → p < np t d):0 ≤ penP t d p:=by
 unfold penP
 have:=ht.k0
 split
 ·have:=plen_pos ht hd hp;omega
 ·rename_i h;have:=(ht.r2 h).1;omega
theorem bud_pos {t:Tk} {j:Jb} (ht:t.Ok) (h:JbOk t j):1 ≤ bud t j:=by
 unfold bud
 have h1:=h.l1
 have h2:=rem_nonneg ht h.pr
 have h3:=pen_nonneg ht h.d1 h.pr
 split <;> omega
theorem np_mono {t:Tk} {d c:Int} (ht:t.Ok) (h:d ≤ c):np t d ≤ np t c:=by
 unfold np
 split
 ·rename_i hm
  exact Int.ediv_le_ediv (by have:=(ht.r1 hm).1;omega) (by omega)
 ·omega
theorem bud_new {t:Tk} {d:Int} (ht:t.Ok) (h1:1 ≤ d) (h2:d ≤ t.C):plen t d 0 + remP t d 0 ≤ wholeT t:=by
 unfold wholeT
 by_cases hm:t.Mode = 1
 ·rw [if_pos hm]
  have h3:=np_mono ht h2
  have h4:=(ht.r1 hm).1
  have h5:(t.C + t.Seg - 1) / t.Seg = np t t.C:=by unfold np;rw [if_pos hm]
  rw [h5]
  have h6:np t d * t.Cost ≤ np t t.C * t.Cost:=Int.mul_le_mul_of_nonneg_right h3 ht.k0
  unfold plen remP
  simp only [if_pos hm,Int.zero_mul,Int.zero_add,Int.one_mul,Int.sub_zero]
  rw [show (np t d - 1) * t.Cost = np t d * t.Cost - t.Cost by rw [Int.sub_mul,Int.one_mul]]
  omega
 ·unfold plen remP
  simp only [if_neg hm]
  omega
theorem cut_ok (t:Tk) (ht:t.Ok) (d:Int):1 ≤ cut t d ∧ cut t d ≤ t.C:=by
 unfold cut
 have:=ht.c1
 omega
theorem extra_pos {t:Tk} (ht:t.Ok):1 ≤ extraT t:=by
 unfold extraT
 have:=ht.k0
 split
 ·rename_i h;have:=(ht.r1 h).1;omega
 ·rename_i h;have:=(ht.r2 h).1;omega
theorem rstep_laws {t:Tk} {j:Jb} (ht:t.Ok) (h:JbOk t j) (hit:Bool) :
  ((rstep t j hit).2 = 4 ∨ (JbOk t (rstep t j hit).1 ∧ bud t (rstep t j hit).1 ≤ bud t j - 1 + if hit = true then extraT t else 0))
  ∧ (rstep t j hit).1.no = j.no ∧ (rstep t j hit).1.rel = j.rel ∧ (rstep t j hit).1.must = j.must ∧ (rstep t j hit).1.over = j.over ∧ (rstep t j hit).1.dem = j.dem
  ∧ (urg t j = true → urg t (rstep t j hit).1 = true) ∧ ((rstep t j hit).2 = 3 → bud t (rstep t j hit).1 = extraT t ∧ t.Mode = 3)
  ∧ (urg t (rstep t j hit).1 = true → urg t j = true ∨ (rstep t j hit).2 = 3)
  ∧ ((rstep t j hit).2 = 0 ∨ (rstep t j hit).2 = 1 ∨ (rstep t j hit).2 = 2 ∨ (rstep t j hit).2 = 3 ∨ (rstep t j hit).2 = 4)
  ∧ (hit = false → j.struck = false → (rstep t j hit).1.struck = false ∧ (rstep t j hit).2 ≠ 2 ∧ (rstep t j hit).2 ≠ 3):=by
 have hpos:=bud_pos ht h
 have hrem:=rem_nonneg ht h.pr
 have hpen:=pen_nonneg ht h.d1 h.pr
 have hple:=pen_le (d:=j.dem) (p:=j.part) ht
 have hex:=extra_pos ht
 have hl:=h.l1
 unfold rstep
 by_cases h1:0 < j.left - 1
 ·rw [if_pos h1]
  refine ⟨.inr ⟨⟨h.d1,h.dc,by simp only;omega,h.p0,h.pr,h.pb⟩,?_⟩,rfl,rfl,rfl,rfl,rfl,fun e=>e,fun e=>by simp at e,fun e=>.inl e,.inl rfl,fun e1 e2=>⟨by simp [e1,e2],by simp,by simp⟩⟩
  unfold bud
  simp only
  cases hs:j.struck <;> cases hit <;> simp [hs] <;> omega
 ·rw [if_neg h1]
  have hl1:j.left = 1:=by omega
  by_cases h2:(j.struck || hit) = true
  ·rw [if_pos h2]
   by_cases hm:t.Mode = 1
   ·rw [if_pos hm]
    have hpl:=plen_pos ht h.d1 h.pr
    refine ⟨.inr ⟨⟨h.d1,h.dc,hpl,h.p0,h.pr,h.pb⟩,?_⟩,rfl,rfl,rfl,rfl,rfl,fun e=>e,fun e=>by simp at e,fun e=>.inl e,.inr (.inr (.inl rfl)),fun e1 e2=>by rw [e1,e2] at h2;cases h2⟩
    have e:penP t j.dem j.part = plen t j.dem j.part:=by unfold penP;rw [if_pos hm]
    unfold bud
    simp only
    rw [e] at hpen hple
    cases hs:j.struck
    ·rw [hs] at h2
     simp at h2
     simp [h2]
     omega
    ·simp only [e]
     cases hit <;> simp <;> omega
   ·rw [if_neg hm]
    have e:penP t j.dem j.part = t.A + t.Cost:=by unfold penP;rw [if_neg hm]
    have er:∀ p,remP t j.dem p = 0:=fun p=>by unfold remP;rw [if_neg hm]
    have ex:extraT t = t.A + t.Cost:=by unfold extraT;rw [if_neg hm]
    have ha:=(ht.r2 hm).1
    have hk:=ht.k0
    have eb:bud t { j with part:=1,left:=t.A + t.Cost,struck:=false,fails:=j.fails + 1 } = extraT t:=by
     unfold bud
     simp only [er]
     rw [ex];simp
    refine ⟨.inr ⟨⟨h.d1,h.dc,by simp only;omega,by simp,fun e=>absurd e hm,fun _=>.inr rfl⟩,?_⟩,rfl,rfl,rfl,rfl,rfl,fun e=>?_,fun e=>⟨eb,?_⟩,fun e=>?_,?_,fun e1 e2=>by rw [e1,e2] at h2;cases h2⟩
    ·rw [eb]
     unfold bud
     rw [er]
     cases hs:j.struck
     ·rw [hs] at h2
      simp at h2
      simp [h2]
      omega
     ·rw [e,← ex]
      cases hit <;> simp <;> omega
    ·unfold urg at e ⊢
     simp only [decide_eq_true_eq] at e ⊢
     exact ⟨e.1,trivial⟩
    ·simp only at e
     split at e
     ·rename_i h3;exact h3.1
     ·omega
    ·unfold urg at e ⊢
     simp only [decide_eq_true_eq] at e ⊢
     by_cases hp:j.part = 1
     ·exact .inl ⟨e.1,hp⟩
     ·exact .inr (by rw [if_pos ⟨e.1,hp⟩])
    ·simp only
     split
     ·exact .inr (.inr (.inr (.inl rfl)))
     ·exact .inr (.inr (.inl rfl))
  ·rw [if_neg h2]
   have hs:j.struck = false ∧ hit = false:=by simpa using h2
   by_cases h3:t.Mode ≠ 1 ∨ j.part = np t j.dem - 1
   ·rw [if_pos h3]
    exact ⟨.inl rfl,rfl,rfl,rfl,rfl,rfl,fun e=>e,fun e=>by simp at e,fun e=>.inl e,.inr (.inr (.inr (.inr rfl))),fun e1 e2=>⟨by simp [e1,e2],by simp,by simp⟩⟩
   ·rw [if_neg h3]
    have hm:t.Mode = 1:=by
     by_cases hm:t.Mode = 1
     ·exact hm
     ·exact absurd (.inl hm) h3
    have hp:j.part + 1 < np t j.dem:=by
     have:=h.pr hm
     have h4:j.part ≠ np t j.dem - 1:=fun e=>h3 (.inr e)
     omega
    have hn:=rem_next ht hm hp
    have hpl:=plen_pos ht h.d1 (p:=j.part + 1) (fun _=>hp)
    have h0:=h.p0
    refine ⟨.inr ⟨⟨h.d1,h.dc,hpl,by simp only;omega,fun _=>hp,fun e=>absurd hm e⟩,?_⟩,rfl,rfl,rfl,rfl,rfl,fun e=>?_,fun e=>by simp at e,fun e=>?_,.inr (.inl rfl),fun e1 e2=>⟨by simp [e1,e2],by simp,by simp⟩⟩
    ·unfold bud
     simp only [hs.1,hs.2]
     simp
     omega
    ·unfold urg at e
     simp only [decide_eq_true_eq] at e
     omega
    ·unfold urg at e
     simp only [decide_eq_true_eq] at e
     omega
end
section
def S (f:Nat → Int):Nat → Int
 | 0=>0
 | k + 1=>S f k + f k
theorem S_congr {f g:Nat → Int} {n:Nat} (h:∀ k,k < n → f k = g k):S f n = S g n:=by
 induction n with
 | zero=>rfl
 | succ n ih=>unfold S;rw [ih fun k hk=>h k (by omega),h n (by omega)]
theorem S_le {f g:Nat → Int} {n:Nat} (h:∀ k,k < n → f k ≤ g k):S f n ≤ S g n:=by
 induction n with
 | zero=>exact Int.le_refl _
 | succ n ih =>
  unfold S
  have h1:=ih fun k hk=>h k (by omega)
  have h2:=h n (by omega)
  omega
theorem S_zero {f:Nat → Int} {n:Nat} (h:∀ k,k < n → f k = 0):S f n = 0:=by
 induction n with
 | zero=>rfl
 | succ n ih=>unfold S;rw [ih fun k hk=>h k (by omega),h n (by omega)];rfl
theorem S_nonneg {f:Nat → Int} {n:Nat} (h:∀ k,k < n → 0 ≤ f k):0 ≤ S f n:=by
 have:=S_le (f:=fun _=>0) (g:=f) h
 rwa [S_zero (fun _ _=>rfl)] at this
theorem S_one {f g:Nat → Int} {n i:Nat} (hi:i < n) (h:∀ k,k < n → k ≠ i → f k = g k):S f n = S g n - g i + f i:=by
 induction n with
 | zero=>omega
 | succ n ih =>
  unfold S
  by_cases e:i = n
  ·subst e
   rw [S_congr fun k hk=>h k (by omega) (by omega)];omega
  ·rw [ih (by omega) fun k hk=>h k (by omega),h n (by omega) (by omega)];omega
theorem S_ge_one {f:Nat → Int} {n i:Nat} (hi:i < n) (h:∀ k,k < n → 0 ≤ f k):f i ≤ S f n:=by
 have h1:=S_one (f:=f) (g:=fun k=>if k = i then 0 else f k) hi (fun k _ e=>by simp [e])
 have h2:=S_nonneg (f:=fun k=>if k = i then 0 else f k) (n:=n) (fun k hk=>by show 0 ≤ (if k = i then (0:Int) else f k);split;exact Int.le_refl _;exact h k hk)
 simp at h1
 omega
theorem S_one_le {f g:Nat → Int} {n i:Nat} {d:Int} (hi:i < n) (h:∀ k,k < n → k ≠ i → f k ≤ g k) (hd:f i ≤ g i + d):S f n ≤ S g n + d:=by
 have h1:=S_one (f:=f) (g:=fun k=>if k = i then g i else f k) hi (fun k _ e=>by simp [e])
 have h2:=S_le (f:=fun k=>if k = i then g i else f k) (g:=g) (n:=n) (fun k hk=>by
  show (if k = i then g i else f k) ≤ g k
  split
  ·rename_i e;subst e;exact Int.le_refl _
  ·rename_i e;exact h k hk e)
 simp at h1
 omega
section
variable {tk:Nat → Tk} {n:Nat}
structure Inv (tk:Nat → Tk) (n:Nat) (x:Int) (s:St):Prop where
 ok:∀ i j,i < n → s.job i = some j → JbOk (tk i) j
 op:∀ i j,i < n → s.job i = some j → (j.rel:Int) + (tk i).T = s.opn i
 no:∀ i j,i < n → s.job i = some j → j.no + 1 = s.cnt i
 le:∀ i,i < n → s.opn i ≤ (s.now:Int) - x + (tk i).T
 c0:∀ i,i < n → 0 ≤ s.cnt i
def InTime (tk:Nat → Tk) (n:Nat) (s:St):Prop:=∀ i j,i < n → s.job i = some j → (s.now:Int) < (j.rel:Int) + (tk i).D
theorem Inv.closed {x:Int} {s:St} (h:Inv tk n x s) (hl:InTime tk n s) (hok:∀ k,k < n → (tk k).Ok) {i:Nat} (hi:i < n) (ho:s.opn i ≤ (s.now:Int)):s.job i = none:=by
 cases e:s.job i with
 | none=>rfl
 | some j =>
  have h1:=h.op i j hi e
  have h2:=hl i j hi e
  have h3:=(hok i hi).dt
  omega
structure Late (tk:Nat → Tk) (n:Nat) (s s':St):Prop where
 now:s'.now = s.now
 last:s'.last = s.last
 opn:s'.opn = s.opn
 cnt:s'.cnt = s.cnt
 job:∀ k,s'.job k = s.job k ∨ (s'.job k = none ∧ k < n ∧ ∃ j,s.job k = some j ∧ (j.rel:Int) + (tk k).D ≤ s.now)
 late:∀ k j,k < n → s'.job k = some j → (s.now:Int) < (j.rel:Int) + (tk k).D
theorem late_to (s:St) (m:Nat):Late tk m s (lateTo tk s m).1 ∧ ∀ k,m ≤ k → (lateTo tk s m).1.job k = s.job k:=by
 induction m with
 | zero=>exact ⟨⟨rfl,rfl,rfl,rfl,fun k=>.inl rfl,fun k j h=>by omega⟩,fun _ _=>rfl⟩
 | succ m ih =>
  obtain ⟨h,hr⟩:=ih
  have hm:=hr m (Nat.le_refl _)
  unfold lateTo
  cases e:(lateTo tk s m).1.job m with
  | none =>
   simp only
   refine ⟨⟨h.now,h.last,h.opn,h.cnt,fun k=>?_,fun k j hk hj=>?_⟩,fun k hk=>hr k (by omega)⟩
   ·rcases h.job k with h1 | ⟨h1,h2,h3⟩
    ·exact .inl h1
    ·exact .inr ⟨h1,by omega,h3⟩
   ·by_cases hkm:k = m
    ·subst hkm;rw [e] at hj;cases hj
    ·exact h.late k j (by omega) hj
  | some j0 =>
   simp only
   by_cases hl:(j0.rel:Int) + (tk m).D ≤ s.now
   ·rw [if_pos hl]
    refine ⟨⟨h.now,h.last,h.opn,h.cnt,fun k=>?_,fun k j hk hj=>?_⟩,fun k hk=>?_⟩
    ·by_cases hkm:k = m
     ·subst hkm
      refine .inr ⟨upd_self _ _ _,by omega,j0,by rw [← hm];exact e,hl⟩
     ·have e1:(gone (lateTo tk s m).1 m false).job k = (lateTo tk s m).1.job k:=upd_ne _ _ hkm
      rw [e1]
      rcases h.job k with h1 | ⟨h1,h2,h3⟩
      ·exact .inl h1
      ·exact .inr ⟨h1,by omega,h3⟩
    ·by_cases hkm:k = m
     ·subst hkm
      have e1:(gone (lateTo tk s k).1 k false).job k = none:=upd_self _ _ _
      rw [e1] at hj;cases hj
     ·have e1:(gone (lateTo tk s m).1 m false).job k = (lateTo tk s m).1.job k:=upd_ne _ _ hkm
      rw [e1] at hj
      exact h.late k j (by omega) hj
    ·have e1:(gone (lateTo tk s m).1 m false).job k = (lateTo tk s m).1.job k:=upd_ne _ _ (by omega)
     rw [e1]
     exact hr k (by omega)
   ·rw [if_neg hl]
    refine ⟨⟨h.now,h.last,h.opn,h.cnt,fun k=>?_,fun k j hk hj=>?_⟩,fun k hk=>hr k (by omega)⟩
    ·rcases h.job k with h1 | ⟨h1,h2,h3⟩
     ·exact .inl h1
     ·exact .inr ⟨h1,by omega,h3⟩
    ·by_cases hkm:k = m
     ·subst hkm
      rw [e] at hj;cases hj
      omega
     ·exact h.late k j (by omega) hj
theorem Inv.late {x:Int} {s s':St} (h:Inv tk n x s) (hl:Late tk n s s'):Inv tk n x s':=by
 have hj:∀ k j,s'.job k = some j → s.job k = some j:=fun k j e=>by
  rcases hl.job k with h1 | ⟨h1,_⟩
  ·rw [← h1];exact e
  ·rw [h1] at e;cases e
 exact ⟨fun i j hi e=>h.ok i j hi (hj i j e),fun i j hi e=>by rw [hl.opn];exact h.op i j hi (hj i j e),fun i j hi e=>by rw [hl.cnt];exact h.no i j hi (hj i j e),fun i hi=>by rw [hl.opn,hl.now];exact h.le i hi,fun i hi=>by rw [hl.cnt];exact h.c0 i hi⟩
theorem newJ_ok {s:St} {i:Nat} {d:Int} {m:Bool} (ht:(tk i).Ok):JbOk (tk i) (newJ tk s i d m):=by
 obtain ⟨h1,h2⟩:=cut_ok (tk i) ht d
 exact ⟨h1,h2,plen_pos ht h1 (fun _=>by have:=np_pos (d:=cut (tk i) d) ht h1;omega),Int.le_refl _,fun _=>by show (0:Int) < np (tk i) (cut (tk i) d);have:=np_pos (d:=cut (tk i) d) ht h1;omega,fun _=>.inl rfl⟩
theorem Inv.rel {s:St} (h:Inv tk n 0 s) (hok:∀ k,k < n → (tk k).Ok) {i:Nat} (hi:i < n) (d:Int) (m:Bool):Inv tk n 0 (relS tk s i d m):=by
 refine ⟨fun k j hk e=>?_,fun k j hk e=>?_,fun k j hk e=>?_,fun k hk=>?_,fun k hk=>?_⟩
 all_goals
  by_cases hki:k = i
  ·subst hki
   first
    |(have e:upd s.job k (some (newJ tk s k d m)) k = some j:=e
      rw [upd_self] at e;cases e
      first
      | exact newJ_ok (hok k hk)
      |(show _ = upd s.opn k _ k;rw [upd_self];rfl)
      |(show _ = upd s.cnt k _ k;rw [upd_self];rfl))
    |(show upd s.opn k _ k ≤ _;rw [upd_self];simp [relS])
    |(show 0 ≤ upd s.cnt k _ k;rw [upd_self];have:=h.c0 k hk;omega)
  ·first
    |(have e:upd s.job i (some (newJ tk s i d m)) k = some j:=e
      rw [upd_ne _ _ hki] at e
      first
      | exact h.ok k j hk e
      |(show _ = upd s.opn i _ k;rw [upd_ne _ _ hki];exact h.op k j hk e)
      |(show _ = upd s.cnt i _ k;rw [upd_ne _ _ hki];exact h.no k j hk e))
    |(show upd s.opn i _ k ≤ _;rw [upd_ne _ _ hki];exact h.le k hk)
    |(show 0 ≤ upd s.cnt i _ k;rw [upd_ne _ _ hki];exact h.c0 k hk)
theorem InTime.rel {s:St} (h:InTime tk n s) (hok:∀ k,k < n → (tk k).Ok) {i:Nat} (hi:i < n) (d:Int) (m:Bool):InTime tk n (relS tk s i d m):=by
 intro k j hk e
 by_cases hki:k = i
 ·subst hki
  have e:upd s.job k (some (newJ tk s k d m)) k = some j:=e
  rw [upd_self] at e;cases e
  have h1:=(hok k hk).c1
  have h2:=(hok k hk).cd
  show (s.now:Int) < (s.now:Int) + _
  omega
 ·have e:upd s.job i (some (newJ tk s i d m)) k = some j:=e
  rw [upd_ne _ _ hki] at e
  exact h k j hk e
theorem jstep_laws {t:Tk} {j:Jb} (ht:t.Ok) (h:JbOk t j) (hit:Bool) :
  (jstep t j hit).1.no = j.no ∧ (jstep t j hit).1.rel = j.rel ∧ (jstep t j hit).1.must = j.must ∧ (jstep t j hit).1.over = j.over ∧ (jstep t j hit).1.dem = j.dem ∧ (jstep t j hit).1.begun = true
  ∧ ((jstep t j hit).2 = 0 ∨ (jstep t j hit).2 = 1 ∨ (jstep t j hit).2 = 2 ∨ (jstep t j hit).2 = 3 ∨ (jstep t j hit).2 = 4):=by
 obtain ⟨_,h1,h2,h3,h4,h5,_,_,_,h6,_⟩:=rstep_laws ht h hit
 unfold jstep
 simp only
 split
 ·exact ⟨h1,h2,h3,h4,h5,rfl,.inr (.inr (.inl rfl))⟩
 ·split
  ·exact ⟨h1,h2,h3,h4,h5,rfl,.inr (.inr (.inl rfl))⟩
  ·exact ⟨h1,h2,h3,h4,h5,rfl,h6⟩
theorem JbOk.begin {t:Tk} {j j':Jb} (h:JbOk t j) (e1:j'.dem = j.dem) (e2:j'.part = j.part) (e3:j'.left = j.left):JbOk t j' :=
 ⟨by rw [e1];exact h.d1,by rw [e1];exact h.dc,by rw [e3];exact h.l1,by rw [e2];exact h.p0,by rw [e1,e2];exact h.pr,by rw [e2];exact h.pb⟩
theorem runOut_job {s:St} {i:Nat} {j:Jb} (hit:Bool) (ht:(tk i).Ok) (h:JbOk (tk i) j) :
  ((runS tk s i j hit).1 = { s with job:=upd s.job i (some (jstep (tk i) j hit).1),last:=(i:Int) } ∧ JbOk (tk i) (jstep (tk i) j hit).1
   ∧ jstep (tk i) j hit = ({ (rstep (tk i) j hit).1 with begun:=true },(rstep (tk i) j hit).2) ∧ (rstep (tk i) j hit).2 ≠ 4 ∧ ((rstep (tk i) j hit).2 = 2 ∨ (rstep (tk i) j hit).2 = 3 → j.must = true)) ∨
  ∃ met,(runS tk s i j hit).1 = gone { s with job:=upd s.job i (some (jstep (tk i) j hit).1),last:=(i:Int) } i met:=by
 obtain ⟨h0,h1,h2,h3,h4,h5,_,_,_,h6,_⟩:=rstep_laws ht h hit
 have e:(runS tk s i j hit).1 = (runOut tk { s with job:=upd s.job i (some (jstep (tk i) j hit).1),last:=(i:Int) } i (jstep (tk i) j hit).1 (jstep (tk i) j hit).2).1:=rfl
 rw [e]
 unfold jstep
 simp only
 by_cases c1:(rstep (tk i) j hit).2 = 4 ∧ j.over = true
 ·rw [if_pos c1]
  unfold runOut
  simp only
  rw [if_neg (by decide),if_neg (by decide),if_pos trivial]
  split
  ·exact .inr ⟨_,rfl⟩
  ·split
   ·exact .inr ⟨_,rfl⟩
   ·rename_i d1 d2
    exfalso
    apply d1
    refine ⟨h4.trans c1.2,trivial,?_⟩
    have:=c1.1
    unfold rstep at this ⊢
    have hl:=h.l1
    by_cases g1:0 < j.left - 1
    ·rw [if_pos g1] at this;cases this
    ·rw [if_neg g1] at this ⊢
     by_cases g2:(j.struck || hit) = true
     ·rw [if_pos g2] at this
      split at this
      ·cases this
      ·simp only at this;split at this <;> cases this
     ·rw [if_neg g2] at this ⊢
      by_cases g3:(tk i).Mode ≠ 1 ∨ j.part = np (tk i) j.dem - 1
      ·rw [if_pos g3];simp only;omega
      ·rw [if_neg g3] at this;cases this
 ·rw [if_neg c1]
  by_cases c2:((rstep (tk i) j hit).2 = 2 ∨ (rstep (tk i) j hit).2 = 3) ∧ j.must = false
  ·rw [if_pos c2]
   unfold runOut
   simp only
   rw [if_neg (by decide),if_neg (by decide),if_pos trivial]
   split
   ·exact .inr ⟨_,rfl⟩
   ·rw [if_pos (h3.trans c2.2)]
    exact .inr ⟨_,rfl⟩
  ·rw [if_neg c2]
   have hne:(rstep (tk i) j hit).2 ≠ 4 → JbOk (tk i) { (rstep (tk i) j hit).1 with begun:=true }:=fun c=>by
    rcases h0 with h0 | h0
    ·exact absurd h0 c
    ·exact h0.1.begin rfl rfl rfl
   have hmu:(rstep (tk i) j hit).2 = 2 ∨ (rstep (tk i) j hit).2 = 3 → j.must = true:=fun c=>by
    cases hm:j.must
    ·exact absurd ⟨c,hm⟩ c2
    ·rfl
   unfold runOut
   simp only
   rcases h6 with c | c | c | c | c <;> rw [c] at hne hmu ⊢
   ·rw [if_neg (by decide),if_neg (by decide),if_neg (by decide),if_neg (by decide)]
    exact .inl ⟨rfl,hne (by decide),by first | trivial | rfl,by decide,hmu⟩
   ·rw [if_pos rfl]
    exact .inl ⟨rfl,hne (by decide),by first | trivial | rfl,by decide,hmu⟩
   ·rw [if_neg (by decide),if_neg (by decide),if_pos rfl]
    split
    ·exact .inr ⟨_,rfl⟩
    ·split
     ·exact .inr ⟨_,rfl⟩
     ·exact .inl ⟨rfl,hne (by decide),by first | trivial | rfl,by decide,hmu⟩
   ·rw [if_neg (by decide),if_pos rfl]
    exact .inl ⟨rfl,hne (by decide),by first | trivial | rfl,by decide,hmu⟩
   ·rw [if_neg (by decide),if_neg (by decide),if_neg (by decide),if_pos rfl]
    exact .inr ⟨_,rfl⟩
theorem run_job {s s':St} {hit:Bool} {ev:List Ev} (hok:∀ k,k < n → (tk k).Ok) (hI:Inv tk n 0 s) (h:Run1 tk n s hit s' ev) :
  s'.now = s.now ∧ s'.opn = s.opn ∧ s'.cnt = s.cnt ∧
  ((∀ k,k < n → s.job k = none) ∧ s'.job = s.job ∨
   ∃ i j,Top tk n s i j ∧ (∀ k,k ≠ i → s'.job k = s.job k) ∧ (s'.job i = none ∨ s'.job i = some (jstep (tk i) j hit).1 ∧ JbOk (tk i) (jstep (tk i) j hit).1 ∧ jstep (tk i) j hit = ({ (rstep (tk i) j hit).1 with begun:=true },(rstep (tk i) j hit).2) ∧ (rstep (tk i) j hit).2 ≠ 4 ∧ ((rstep (tk i) j hit).2 = 2 ∨ (rstep (tk i) j hit).2 = 3 → j.must = true))):=by
 cases h with
 | none h=>exact ⟨rfl,rfl,rfl,.inl ⟨h,rfl⟩⟩
 | some i j h =>
  rcases runOut_job hit (hok i h.1) (hI.ok i j h.1 h.2.1) with ⟨e,h1⟩ | ⟨met,e⟩
  ·rw [e]
   exact ⟨rfl,rfl,rfl,.inr ⟨i,j,h,fun k hk=>upd_ne _ _ hk,.inr ⟨upd_self _ _ _,h1⟩⟩⟩
  ·rw [e]
   exact ⟨rfl,rfl,rfl,.inr ⟨i,j,h,fun k hk=>(upd_ne _ _ hk).trans (upd_ne _ _ hk),.inl (upd_self _ _ _)⟩⟩
theorem Inv.run {s s':St} {hit:Bool} {ev:List Ev} (hok:∀ k,k < n → (tk k).Ok) (hI:Inv tk n 0 s) (h:Run1 tk n s hit s' ev):Inv tk n 1 { s' with now:=s'.now + 1 }:=by
 obtain ⟨e1,e2,e3,hj⟩:=run_job hok hI h
 have hle:∀ k,k < n → s'.opn k ≤ ((s'.now + 1:Nat):Int) - 1 + (tk k).T:=fun k hk=>by have:=hI.le k hk;rw [e2,e1];omega
 have hc:∀ k,k < n → 0 ≤ s'.cnt k:=fun k hk=>by rw [e3];exact hI.c0 k hk
 rcases hj with ⟨hn,e⟩ | ⟨i,j,ht,ho,hi⟩
 ·refine ⟨fun k b hk hb=>?_,fun k b hk hb=>?_,fun k b hk hb=>?_,hle,hc⟩
  all_goals
   have hb:s'.job k = some b:=hb
   rw [e,hn k hk] at hb;cases hb
 ·obtain ⟨l1,l2,_⟩:=jstep_laws (hok i ht.1) (hI.ok i j ht.1 ht.2.1) hit
  refine ⟨fun k b hk hb=>?_,fun k b hk hb=>?_,fun k b hk hb=>?_,hle,hc⟩
  all_goals
   have hb:s'.job k = some b:=hb
   by_cases hki:k = i
   ·subst hki
    rcases hi with hi | ⟨hi,h4,_⟩
    ·rw [hi] at hb;cases hb
    ·rw [hi] at hb;cases hb
     first
      | exact h4
      |(show _ = s'.opn k;rw [e2,l2];exact hI.op k j hk ht.2.1)
      |(show _ = s'.cnt k;rw [e3,l1];exact hI.no k j hk ht.2.1)
   ·rw [ho k hki] at hb
    first
     | exact hI.ok k b hk hb
     |(show _ = s'.opn k;rw [e2];exact hI.op k b hk hb)
     |(show _ = s'.cnt k;rw [e3];exact hI.no k b hk hb)
end
end
end Go.Proofs.YtnoahekcemfmcaaGreatDoor
