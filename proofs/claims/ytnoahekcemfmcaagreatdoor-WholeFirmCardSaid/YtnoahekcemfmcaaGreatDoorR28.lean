/- A part of the walk: Ap Sched7 Xq Xr Vc. -/
import Derived.Test.YtnoahekcemfmcaaGreatDoorR26
import Derived.Deep.RegionHeld3
import Derived.Deep.DrawnRows
import Derived.Test.YtnoahekcemfmcaaGreatDoorR20
import Derived.Test.YtnoahekcemfmcaaGreatDoorR27
import Derived.Test.YtnoahekcemfmcaaGreatDoorR10
namespace Go.Proofs.YtnoahekcemfmcaaGreatDoor
set_option linter.unusedVariables false
set_option linter.unusedSimpArgs false
set_option maxHeartbeats 80000000
set_option maxRecDepth 100000
section
open Go.RowKit
def Src (w:World) (x:Value) (m:Nat) (news:List Value):Prop :=
 (m = 0 ∧ x = .slice none 0 0) ∨ ∃ ad c,x = .slice (some ad) m c ∧ ∀ j u,news[j]? = some u → w.cell? (ad.add j) = some u
theorem run_append_row {P:Program} (w:World) (t ty:TypeId) (base:Nat) (e:TypeId) (i:TypeInfo) (z:Value) (size bytes:Nat) (ht:P.underlying t = some (.slice e)) (hi:P.info? e = some i) (hz:i.zero = some z)
  (hsize:i.size = size) (hby:i.bytes = bytes) (hzs:z.cells.size = size) (hsz:0 < size)
  (v:Value) (n:Nat) (xs:List Value) (hown:w.ownsRow base e size v n xs)
  (x:Value) (m:Nat) (news:List Value) (hl:news.length = m * size) (hx:Src w x m news) (h1:∀ u ∈ news,u.oneCell' = true)
  (h63:n + m ≤ maxLen) (hbytes:(n + m) * bytes ≤ 140737488355328) (hbase:base ≤ w.heap.size) :
  ∃ v' w',(Builtin.append_ #[t,t] ty #[v,x]).run P w = .ok v' w' ∧ w'.ownsRow base e size v' (n + m) (xs ++ news) ∧ w.grownBy w' v.ownBlock ∧ (v'.ownBlock = v.ownBlock ∨ v'.ownBlock = some w.heap.size):=by
 rcases hx with ⟨rfl,rfl⟩ | ⟨ad,c,rfl,hc⟩
 ·have hn:news = []:=List.eq_nil_of_length_eq_zero (by simpa using hl)
  subst hn
  exact ⟨v,w,run_append_owned_none w base t ty e i size ht hi v n xs hown,by simpa using hown,⟨rfl,rfl,rfl,Nat.le_refl _,fun _ _ _=>rfl⟩,.inl rfl⟩
 ·obtain ⟨v',w',hr,h2,h3,_,h5⟩:=run_append_own_at (P:=P) w base t ty e i z size bytes ht hi hz hsize hby hzs hsz v n xs hown ad m c news hl hc h1 h63 hbytes hbase
  exact ⟨v',w',hr,h2,h3,h5⟩
theorem wp_append_row {P:Program} {w:World} {o:Oper} {a:Act} {K:Act → World → Prop} {Q':Exit → Act → World → Prop} (s y:Operand) (t:TypeId)
  (ho:o.op = .call { callee:=.builtin .append,args:=#[s,y],argTypes:=#[t,t] })
  (base:Nat) (e:TypeId) (i:TypeInfo) (z:Value) (size bytes:Nat) (ht:P.underlying t = some (.slice e)) (hi:P.info? e = some i) (hz:i.zero = some z)
  (hsize:i.size = size) (hby:i.bytes = bytes) (hzs:z.cells.size = size) (hsz:0 < size)
  (v:Value) (n:Nat) (xs:List Value) (hs:a.eval s = v) (hown:w.ownsRow base e size v n xs)
  (x:Value) (m:Nat) (news:List Value) (hy:a.eval y = x) (hl:news.length = m * size) (hx:Src w x m news) (h1:∀ u ∈ news,u.oneCell' = true)
  (h63:n + m ≤ maxLen) (hbytes:(n + m) * bytes ≤ 140737488355328) (hbase:base ≤ w.heap.size)
  (h:∀ v' w',w'.ownsRow base e size v' (n + m) (xs ++ news) → w.grownBy w' v.ownBlock → (v'.ownBlock = v.ownBlock ∨ v'.ownBlock = some w.heap.size) → K (a.put o.dst v') w'):o.wp P a w K Q':=by
 obtain ⟨v',w',hr,h2,h3,h4⟩:=run_append_row (P:=P) w t o.type base e i z size bytes ht hi hz hsize hby hzs hsz v n xs hown x m news hl hx h1 h63 hbytes hbase
 unfold Oper.wp execOp
 simp only [ho,resolve,invoke,builtin,Sem.run_bind,Sem.run_pure,Result.andThen_ok,List.map_toArray,List.map_cons,List.map_nil,hs,hy,hr]
 exact h v' w' h2 h3 h4
theorem wpList_append_row {P:Program} {w:World} {ops:Array Oper} {rest:List Oper} {o:Oper} {a:Act} {Q':Exit → Act → World → Prop} (hgd:o.guard = none) (s y:Operand) (t:TypeId)
  (ho:o.op = .call { callee:=.builtin .append,args:=#[s,y],argTypes:=#[t,t] })
  (base:Nat) (e:TypeId) (i:TypeInfo) (z:Value) (size bytes:Nat) (ht:P.underlying t = some (.slice e)) (hi:P.info? e = some i) (hz:i.zero = some z)
  (hsize:i.size = size) (hby:i.bytes = bytes) (hzs:z.cells.size = size) (hsz:0 < size)
  (v:Value) (n:Nat) (xs:List Value) (hs:a.eval s = v) (hown:w.ownsRow base e size v n xs)
  (x:Value) (m:Nat) (news:List Value) (hy:a.eval y = x) (hl:news.length = m * size) (hx:Src w x m news) (h1:∀ u ∈ news,u.oneCell' = true)
  (h63:n + m ≤ maxLen) (hbytes:(n + m) * bytes ≤ 140737488355328) (hbase:base ≤ w.heap.size)
  (h:∀ v' w',w'.ownsRow base e size v' (n + m) (xs ++ news) → w.grownBy w' v.ownBlock → (v'.ownBlock = v.ownBlock ∨ v'.ownBlock = some w.heap.size) → wpList P ops Q' rest (a.put o.dst v') w'):wpList P ops Q' (o :: rest) a w :=
 wpList_plain hgd fun _ hK=>wp_append_row s y t ho base e i z size bytes ht hi hz hsize hby hzs hsz v n xs hs hown x m news hy hl hx h1 h63 hbytes hbase fun v' w' h2 h3 h4=>hK _ _ (h v' w' h2 h3 h4)
theorem evs_len (l:List Ev):(l.flatMap evc).length = l.length * 5:=by
 induction l with
 | nil=>rfl
 | cons a l ih=>rw [List.flatMap_cons,List.length_append,ih,List.length_cons];simp [evc];omega
theorem evs_one (l:List Ev):∀ u ∈ l.flatMap evc,u.oneCell' = true:=fun u hu=>by
 rw [List.mem_flatMap] at hu
 obtain ⟨e,_,h⟩:=hu
 simp [evc] at h
 rcases h with rfl | rfl | rfl | rfl | rfl <;> rfl
theorem own_src {w w':World} {B n:Nat} {e size:Nat} {v:Value} {xs:List Value} (hown:w.ownsRow B e size v n xs) (hlen:n = 0 → xs = []) (hk:∀ k,v.ownBlock = some k → k < w.heap.size → w'.heap[k]? = w.heap[k]?):Src w' v n xs:=by
 rcases Nat.eq_zero_or_pos n with h0 | h0
 ·subst h0
  rw [hlen rfl]
  rcases hown.2 with ⟨hv,_⟩ | ⟨g',cap',cur,hv,_⟩
  ·exact .inl ⟨rfl,hv⟩
  ·exact .inr ⟨⟨g',0,none⟩,cap',hv,fun j u hu=>by simp at hu⟩
 ·obtain ⟨g',cap,hv,hg0,hg1,_,hcell,hfz⟩:=ownsRow_cells hown h0
  subst hv
  exact .inr ⟨⟨g',0,none⟩,cap,rfl,fun j u hu=>by
   rw [add_none,Nat.zero_add]
   rw [World.cell?_of_block (hk g' rfl hg1)]
   exact hcell j u hu⟩
theorem own_lit44 (W:World) (base g:Nat) (hg:g = W.heap.size) (hb:base ≤ W.heap.size):(W.alloc (.cells #[] 44)).ownsRow base 44 5 (.slice (some ⟨g,0,none⟩) 0 0) 0 (([]:List Ev).flatMap evc):=by
 subst hg
 exact World.ownsRow_lit (size:=5) (e:=44) W #[] 0 hb (Nat.zero_le _) rfl
theorem wpList_copyE {B:Nat} {w W:World} {ops:Array Oper} {rest:List Oper} {o:Oper} {a:Act} {Q':Exit → Act → World → Prop} (hgd:o.guard = none) (s y:Operand)
  (ho:o.op = .call { callee:=.builtin .append,args:=#[s,y],argTypes:=#[36,36] }) (g:Nat) (v:Value) (n:Nat) (l:List Ev) (hs:a.eval s = .slice (some ⟨g,0,none⟩) 0 0) (hy:a.eval y = v)
  (hg:g = w.heap.size) (hW:W = w.alloc (.cells #[] 44)) (hown:w.ownsRow B 44 5 v n (l.flatMap evc)) (hl:l.length = n) (hn:n ≤ 100000000)
  (h:∀ v' w',w'.ownsRow w.heap.size 44 5 v' n (l.flatMap evc) → Below w.heap.size w w' → wpList Tryz.prog ops Q' rest (a.put o.dst v') w'):wpList Tryz.prog ops Q' (o :: rest) a W:=by
 subst hW
 obtain ⟨i0,ki,kz0,kz1,kz2⟩:=info_parts Tryz.info44
 have hsrc:Src (w.alloc (.cells #[] 44)) v n (l.flatMap evc):=own_src hown (fun e=>by rw [List.eq_nil_of_length_eq_zero (hl.trans e)];rfl) fun k _ hk=>by
  obtain ⟨_,_,_,_,hb⟩:=bel_alloc (Below.refl w.heap.size w) (.cells #[] 44)
  exact hb k hk
 refine wpList_append_row hgd s y 36 ho w.heap.size 44 i0 _ 5 40 Tryz.underlying36 ki kz0 kz1 kz2 rfl (by omega) (.slice (some ⟨g,0,none⟩) 0 0) 0 [] hs (own_lit44 w w.heap.size g hg (Nat.le_refl _)) v n (l.flatMap evc) hy (by rw [evs_len,hl]) hsrc (evs_one l) (by unfold maxLen;omega) (by omega) (by simp) ?_
 intro v' w' h2 h3 h4
 refine h v' w' (by simpa using h2) ?_
 exact Below.grown ((Below.refl _ w).alloc (Nat.le_refl _) _) h3 (by simp) fun k e=>by simp [Value.ownBlock] at e;omega
theorem clone_ev (B:Nat) (v:Value) (l:List Ev) (w:World) (ho:w.ownsRow B 44 5 v l.length (l.flatMap evc)) (hn:l.length ≤ 100000000) :
  Calls Tryz.prog 42 #[v] w fun e w'=>∃ v',e = .returned v' ∧ w'.ownsRow w.heap.size 44 5 v' l.length (l.flatMap evc) ∧ Below w.heap.size w w':=by
 have HO:=Lib.hid ho
 obtain ⟨a,c,rfl⟩:=ownsRow_form ho
 have hf:=ho.2
 clear ho
 cases a with
 | none =>
  have h0:l.length = 0:=by
   rcases hf with ⟨hv,_⟩ | ⟨g',cap',cur,hv,_⟩
   ·simp only [Value.slice.injEq] at hv;exact hv.2.1
   ·simp at hv
  have hl:l = []:=List.eq_nil_of_length_eq_zero h0
  subst hl
  have R:=fun w:World=>Lib.run_eql_slice_nil (P:=Tryz.prog) w 36 44 none 0 c 0 0 Tryz.underlying36
  clear hf h0
  go_enter Tryz.func42,Tryz.ntmps42
  go_wp2_with fail
  go_ret
  exact ⟨_,rfl,World.ownsRow_nil _ _ _ _,Below.refl _ _⟩
 | some ad =>
  have R:=fun w:World=>Lib.run_eql_slice_nil (P:=Tryz.prog) w 36 44 (some ad) l.length c 0 0 Tryz.underlying36
  clear hf
  go_enter Tryz.func42,Tryz.ntmps42
  go_wp2_with (at_builtin;refine wpList_copyE (B:=B) (w:=w) rfl _ _ rfl w.heap.size _ l.length l rfl rfl rfl rfl HO.out rfl hn ?_)
  intro v5 w5 hown5 hb5
  have HO5:=Lib.hid hown5
  have HB5:=Lib.hid hb5
  clear hown5 hb5
  go_wp2_with fail
  go_ret
  exact ⟨v5,rfl,HO5.out,HB5.out⟩
end
def startStep (b:Int) (out:List Int) (x:Int):List Int :=
 match out.getLast? with
 | none=>out ++ [x]
 | some y=>if b ≤ x - y then out ++ [x] else out
def startsL (b:Int) (l:List Int):List Int:=l.foldl (startStep b) []
def gapTo (s:List Int):Nat → Int
 | 0=>1049576
 | k + 1=>min (gapTo s k) (s.getD (k + 1) 0 - s.getD k 0)
def gapL (b:Int) (l:List Int):Int:=gapTo (startsL b l) ((startsL b l).length - 1)
def faultsL (σ:Nat → Bool):Nat → List Int
 | 0=>[]
 | t + 1=>if σ t = true then faultsL σ t ++ [(t:Int)] else faultsL σ t
section
open Go.RowKit
section
variable {B n:Nat} {A:XFix} {bu:Int} {tk:Nat → Tk} {w w':World} {s:St} {out:List Ev} {Mx:Nat} {col:Nat → Nat} {F:Nat → Prop} {hm:List Q} {so:Value} {jbk:Nat → Nat} {gs:List Gate} {kj:Nat → Option Jb} {T:Nat → Prop}
theorem Rels.snoc {s s1 s2:St} {rs:List (Int × Int)} {r:Int × Int} {e1 e2:List Ev} (h:Rels tk n s rs s1 e1) (h2:Rel1 tk n s1 r s2 e2):Rels tk n s (rs ++ [r]) s2 (e1 ++ e2):=by
 induction h with
 | nil s=>have:=Rels.cons h2 (Rels.nil _);simpa using this
 | cons a b ih=>rw [List.append_assoc,List.cons_append];exact Rels.cons a (ih h2)
theorem rel_is (h:XW B A bu n tk w s out Mx col F hm so jbk gs s.job) (hI:Inv tk n 0 s) (hT:InTime tk n s) (r:Int × Int) (ho:out.length ≤ 100000000) (hMx:Mx < 1000000) :
  Calls Tryz.prog 40 #[.pointer (some ⟨A.x,0,none⟩),.agg #[.int .i64 r.1,.int .i64 r.2]] w fun e w'=>e = .returned (.tuple #[]) ∧ ∃ s' ev,Rel1 tk n s r s' ev ∧ Inv tk n 0 s' ∧ InTime tk n s' ∧ ev.length ≤ 1 ∧
   ∃ col' so' F' hm' jbk' gs',XW B A bu n tk w' s' (out ++ ev) (Mx + 1) col' F' hm' so' jbk' gs' s'.job ∧ XR col w col' w':=by
 obtain ⟨r1,d⟩:=r
 by_cases c:r1 < 0 ∨ (n:Int) ≤ r1
 ·refine (rel_none h r1 d c).mono ?_
  rintro e w' ⟨rfl,h',r'⟩
  refine ⟨rfl,s,[],.none r1 d c,hI,hT,by simp,col,so,F,hm,jbk,gs,?_,r'⟩
  rw [List.append_nil]
  exact h'.mxle (Nat.le_succ _) (by omega)
 ·obtain ⟨i,rfl⟩:∃ i:Nat,r1 = (i:Int):=⟨r1.toNat,by omega⟩
  have hi:i < n:=by omega
  by_cases c2:(s.now:Int) < s.opn i
  ·refine (rel_early h i d hi c2 ho hMx).mono ?_
   rintro e w' ⟨rfl,col',so',h',r'⟩
   exact ⟨rfl,s,_,.early i d hi c2,hI,hT,by simp,col',so',F,hm,jbk,gs,h',r'⟩
  ·refine (rel_good h i d hi (by omega) (hI.closed hT h.ok hi (by omega)) (hI.c0 i hi) ho hMx).mono ?_
   rintro e w' ⟨rfl,m,hm0,col',so',F',hm',jbk',gs',h',r'⟩
   exact ⟨rfl,_,_,.good i d m hi (by omega) hm0,hI.rel h.ok hi d m,hT.rel h.ok hi d m,by simp,col',so',F',hm',jbk',gs',h',r'⟩
theorem run_is (h:XW B A bu n tk w s out Mx col F hm so jbk gs s.job) (hit:Bool) (ho:out.length ≤ 90000000) (hMx:Mx + 2 ≤ 1000000) :
  Calls Tryz.prog 41 #[.pointer (some ⟨A.x,0,none⟩),.bool hit] w fun e w'=>e = .returned (.tuple #[]) ∧ ∃ s' ev,Run1 tk n s hit s' ev ∧
   ∃ col' so' hm',XW B A bu n tk w' s' (out ++ ev) (Mx + 2) col' F hm' so' jbk gs s'.job ∧ XR col w col' w':=by
 cases hhm:hm with
 | nil =>
  refine (run_none h hhm hit).mono ?_
  rintro e w' ⟨rfl,h',r'⟩
  refine ⟨rfl,_,[],.none (fun i hi=>?_),col,so,hm,?_,r'⟩
  ·cases hj:s.job i with
   | none=>rfl
   | some J=>have:=(h.hk _).2 ⟨i,J,hi,hj,rfl⟩;rw [hhm] at this;cases this
  ·rw [List.append_nil]
   exact h'.mxle (by omega) (by omega)
 | cons q rest =>
  obtain ⟨i,J,hi,hJ,hq⟩:=(h.hk q).1 (by rw [hhm];exact List.mem_cons_self)
  have hh:hm = keyJ tk i J :: rest:=by rw [hhm,hq]
  have hs:=h.hp.srt
  rw [hh] at hs
  have hs1:=(List.pairwise_cons.1 hs).1
  have htop:Top tk n s i J:=⟨hi,hJ,fun k b hk hki hb=>by
   have hin:=(h.hk _).2 ⟨k,b,hk,hb,rfl⟩
   rw [hh,List.mem_cons] at hin
   rcases hin with hin | hin
   ·simp only [keyJ,Prod.mk.injEq] at hin;omega
   ·have:=(ltK_iff _ _).1 (hs1 _ hin)
    simp only [keyJ] at this
    unfold before
    omega⟩
  by_cases hb:J.begun = true
  ·by_cases hl:s.last = (i:Int)
   ·refine (run_same h i J hi hJ hit rest hh hb hl ho hMx).mono ?_
    rintro e w' ⟨rfl,col',so',hm',h',r'⟩
    exact ⟨rfl,_,_,.some i J htop,col',so',hm',h',r'⟩
   ·refine (run_again h i J hi hJ hit rest hh hb hl ho hMx).mono ?_
    rintro e w' ⟨rfl,col',so',hm',h',r'⟩
    exact ⟨rfl,_,_,.some i J htop,col',so',hm',h',r'⟩
  ·refine (run_first h i J hi hJ hit rest hh (by simpa using hb) ho hMx).mono ?_
   rintro e w' ⟨rfl,col',so',hm',h',r'⟩
   exact ⟨rfl,_,_,.some i J htop,col',so',hm',h',r'⟩
theorem XW.setNow (h:XW B A bu n tk w s out Mx col F hm so jbk gs kj) (hn2:s.now + 1 ≤ 1099511627776):XW B A bu n tk (w.setCell ⟨A.x,2,none⟩ (.int .i64 ((s.now:Int) + 1))) { s with now:=s.now + 1 } out Mx col F hm so jbk gs kj ∧ XR col w col (w.setCell ⟨A.x,2,none⟩ (.int .i64 ((s.now:Int) + 1))):=by
 have cc:=h.c
 have h16:=cc.n16
 have hf:Fr (fun k=>k = A.x) w (w.setCell ⟨A.x,2,none⟩ (.int .i64 ((s.now:Int) + 1))):=(Fr.refl (fun k=>k = A.x) w).setCell (p:=⟨A.x,2,none⟩) rfl _
 have ne:∀ {k c:Nat},col k = c → c ≠ 1 → ¬ k = A.x:=fun e hc=>col_ne e cc.x hc
 have lt:∀ {k c:Nat},col k = c → c ≠ 0 → k < w.heap.size:=fun e hc=>(h.c.lt _ (by rw [e];exact hc)).2
 refine ⟨⟨⟨?_,?_,?_,?_,?_,?_,?_,?_,?_,?_,fun o=>by rw [World.frozen?_setCell];exact h.f.fz o⟩,fun j hj=>rg_fr hf (lt cc.tb (by omega)) (ne cc.tb (by omega)) (h.tsk j hj),
  h.jb.keep hf (lt cc.jb (by omega)) (ne cc.jb (by omega)) (fun i J hi e=>⟨lt (cc.j i J hi e) (by omega),ne (cc.j i J hi e) (by omega)⟩),
  h.sk.keep hf (lt cc.sb (by omega)) (ne cc.sb (by omega)) (fun i hi=>⟨ne (cc.sk i hi).1 (by omega),ne (cc.sk i hi).2.1 (by omega),ne (cc.sk i hi).2.2.1 (by omega),ne (cc.sk i hi).2.2.2 (by omega)⟩),
  h.hp.keep hf (fun k hk=>ne (cc.hp k hk) (by omega)),h.g.keep hf (ne cc.g.1 (by omega)) (ne cc.g.2 (by omega)),?_,
  ownsRow_keep h.o (fun k hk=>hf.block k (lt (cc.o k hk) (by omega)) (ne (cc.o k hk) (by omega))),{ cc with lt:=fun k hk=>⟨(cc.lt k hk).1,Nat.lt_of_lt_of_le (cc.lt k hk).2 hf.size⟩ },h.gl,h.ga,h.hk,h.ok,fun i J hi e=>by { obtain ⟨a1,a2,a3,a4,a5⟩:=h.jk i J hi e;exact ⟨a1,a2,a3,a4,Nat.le_succ_of_le a5⟩ },hn2,h.mx⟩,
  XR.of_fr hf (fun k e=>by rw [e,cc.x];omega)⟩
 ·rw [World.cell?_setCell_other _ _ _ _ (addr_ne (by omega))];exact h.f.f0
 ·rw [World.cell?_setCell_other _ _ _ _ (addr_ne (by omega))];exact h.f.f1
 ·exact World.cell?_setCell_same _ _ _ h.f.f2
 ·rw [World.cell?_setCell_other _ _ _ _ (addr_ne (by omega))];exact h.f.f3
 ·rw [World.cell?_setCell_other _ _ _ _ (addr_ne (by omega))];exact h.f.f4
 ·rw [World.cell?_setCell_other _ _ _ _ (addr_ne (by omega))];exact h.f.f5
 ·rw [World.cell?_setCell_other _ _ _ _ (addr_ne (by omega))];exact h.f.f6
 ·rw [World.cell?_setCell_other _ _ _ _ (addr_ne (by omega))];exact h.f.f7
 ·rw [World.cell?_setCell_other _ _ _ _ (addr_ne (by omega))];exact h.f.f8
 ·rw [World.cell?_setCell_other _ _ _ _ (addr_ne (by omega))];exact h.f.f9
 ·obtain ⟨f,m,ef,tf,a⟩:=h.t
  exact ⟨f,m,ef,tf,a.keep hf (ne cc.t.1 (by omega)) (ne cc.t.2.1 (by omega)) (ne cc.t.2.2 (by omega))⟩
theorem XW.noOut (h:XW B A bu n tk w s out Mx col F hm so jbk gs kj):XW B A bu n tk (w.setCell ⟨A.x,9,none⟩ (.slice none 0 0)) s [] Mx col F hm (.slice none 0 0) jbk gs kj ∧ XR col w col (w.setCell ⟨A.x,9,none⟩ (.slice none 0 0)):=by
 have cc:=h.c
 have h16:=cc.n16
 have hf:Fr (fun k=>k = A.x) w (w.setCell ⟨A.x,9,none⟩ (.slice none 0 0)):=(Fr.refl (fun k=>k = A.x) w).setCell (p:=⟨A.x,9,none⟩) rfl _
 have ne:∀ {k c:Nat},col k = c → c ≠ 1 → ¬ k = A.x:=fun e hc=>col_ne e cc.x hc
 have lt:∀ {k c:Nat},col k = c → c ≠ 0 → k < w.heap.size:=fun e hc=>(h.c.lt _ (by rw [e];exact hc)).2
 refine ⟨⟨⟨?_,?_,?_,?_,?_,?_,?_,?_,?_,?_,fun o=>by rw [World.frozen?_setCell];exact h.f.fz o⟩,fun j hj=>rg_fr hf (lt cc.tb (by omega)) (ne cc.tb (by omega)) (h.tsk j hj),
  h.jb.keep hf (lt cc.jb (by omega)) (ne cc.jb (by omega)) (fun i J hi e=>⟨lt (cc.j i J hi e) (by omega),ne (cc.j i J hi e) (by omega)⟩),
  h.sk.keep hf (lt cc.sb (by omega)) (ne cc.sb (by omega)) (fun i hi=>⟨ne (cc.sk i hi).1 (by omega),ne (cc.sk i hi).2.1 (by omega),ne (cc.sk i hi).2.2.1 (by omega),ne (cc.sk i hi).2.2.2 (by omega)⟩),
  h.hp.keep hf (fun k hk=>ne (cc.hp k hk) (by omega)),h.g.keep hf (ne cc.g.1 (by omega)) (ne cc.g.2 (by omega)),?_,
  World.ownsRow_nil _ _ _ _,{ cc with o:=(fun k hk=>by simp [Value.ownBlock] at hk),lt:=fun k hk=>⟨(cc.lt k hk).1,Nat.lt_of_lt_of_le (cc.lt k hk).2 hf.size⟩ },h.gl,h.ga,h.hk,h.ok,h.jk,h.no,h.mx⟩,
  XR.of_fr hf (fun k e=>by rw [e,cc.x];omega)⟩
 ·rw [World.cell?_setCell_other _ _ _ _ (addr_ne (by omega))];exact h.f.f0
 ·rw [World.cell?_setCell_other _ _ _ _ (addr_ne (by omega))];exact h.f.f1
 ·rw [World.cell?_setCell_other _ _ _ _ (addr_ne (by omega))];exact h.f.f2
 ·rw [World.cell?_setCell_other _ _ _ _ (addr_ne (by omega))];exact h.f.f3
 ·rw [World.cell?_setCell_other _ _ _ _ (addr_ne (by omega))];exact h.f.f4
 ·rw [World.cell?_setCell_other _ _ _ _ (addr_ne (by omega))];exact h.f.f5
 ·rw [World.cell?_setCell_other _ _ _ _ (addr_ne (by omega))];exact h.f.f6
 ·rw [World.cell?_setCell_other _ _ _ _ (addr_ne (by omega))];exact h.f.f7
 ·rw [World.cell?_setCell_other _ _ _ _ (addr_ne (by omega))];exact h.f.f8
 ·exact World.cell?_setCell_same _ _ _ h.f.f9
 ·obtain ⟨f,m,ef,tf,a⟩:=h.t
  exact ⟨f,m,ef,tf,a.keep hf (ne cc.t.1 (by omega)) (ne cc.t.2.1 (by omega)) (ne cc.t.2.2 (by omega))⟩
def RelsIn (B:Nat) (w:World) (a:Option Addr) (rs:List (Int × Int)):Prop :=
 0 < rs.length → ∃ b off,a = some ⟨b,off,none⟩ ∧ b < B ∧ ∀ j (h:j < rs.length),w.cell? ⟨b,off + j * 2,none⟩ = some (.int .i64 rs[j].1) ∧ w.cell? ⟨b,off + j * 2 + 1,none⟩ = some (.int .i64 rs[j].2)
theorem RelsIn.keep {T:Nat → Prop} {a:Option Addr} {rs:List (Int × Int)} (h:RelsIn B w a rs) (hB:B ≤ w.heap.size) (hf:Fr T w w') (hT:∀ b,b < B → ¬ T b):RelsIn B w' a rs:=fun h0=>by
 obtain ⟨b,off,e,hlt,hc⟩:=h h0
 exact ⟨b,off,e,hlt,fun j hj=>⟨(hf.cell (p:=⟨b,off + j * 2,none⟩) (by show b < _;omega) (hT b hlt)).trans (hc j hj).1,(hf.cell (p:=⟨b,off + j * 2 + 1,none⟩) (by show b < _;omega) (hT b hlt)).trans (hc j hj).2⟩⟩
theorem XW.low (h:XW B A bu n tk w s out Mx col F hm so jbk gs kj):B ≤ w.heap.size ∧ ∀ b,b < B → ¬ col b ≠ 0:=⟨by
 have:=(h.c.lt A.x (by rw [h.c.x];omega));omega,fun b hb e=>by have:=(h.c.lt b e).1;omega⟩
end
end
section
open Go.RowKit
section
variable {B n:Nat} {A:XFix} {bu:Int} {tk:Nat → Tk} {w w':World} {s:St} {out:List Ev} {Mx:Nat} {col:Nat → Nat} {F:Nat → Prop} {hm:List Q} {so:Value} {jbk:Nat → Nat} {gs:List Gate} {kj:Nat → Option Jb} {T:Nat → Prop}
theorem Inv.less {s:St} (h:Inv tk n 1 s):Inv tk n 0 s:=⟨h.ok,h.op,h.no,fun i hi=>by have:=h.le i hi;omega,h.c0⟩
theorem take_more {α:Type} (l:List α) (k:Nat) (h:k < l.length):l.take (k + 1) = l.take k ++ [l[k]]:=by
 rw [List.take_append_getElem h]
theorem own_base {w:World} {B B' e size n:Nat} {v:Value} {xs:List Value} (h:w.ownsRow B e size v n xs) (hb:B' ≤ B):w.ownsRow B' e size v n xs:=by
 obtain ⟨h1,h2⟩:=h
 refine ⟨h1,h2.imp id ?_⟩
 rintro ⟨g,cap,cur,a1,a2,a3⟩
 exact ⟨g,cap,cur,a1,by omega,a3⟩
theorem runOut_now (s:St) (i:Nat) (j:Jb) (what:Int):(runOut tk s i j what).1.now = s.now:=by
 unfold runOut
 split
 ·rfl
 ·split
  ·rfl
  ·split
   ·split
    ·rfl
    ·split <;> rfl
   ·split <;> rfl
theorem run_now {s s':St} {hit:Bool} {ev:List Ev} (h:Run1 tk n s hit s' ev):s'.now = s.now:=by
 cases h with
 | none h=>rfl
 | some i j h=>exact runOut_now _ _ _ _
theorem events_run {s2 s3:St} {hit:Bool} {e3:List Ev} (h3:Run1 tk n s2 hit s3 e3):e3.length ≤ 5:=by
 have:e3.length ≤ 2:=by
  cases h3 with
  | none h=>simp
  | some i j hT =>
   unfold runS
   simp only [List.length_append]
   have a:=runOut_len (tk:=tk) { s2 with job:=upd s2.job i (some (jstep (tk i) j hit).1),last:=(i:Int) } i (jstep (tk i) j hit).1 (jstep (tk i) j hit).2
   have b:(evStart tk s2 i j).length ≤ 1:=by
    unfold evStart
    split
    ·simp
    ·split <;> simp
   omega
 omega
theorem tick_is (h:XW B A bu n tk w s out Mx col F hm so jbk gs s.job) (hI:Inv tk n 0 s) (a:Option Addr) (c:Nat) (rs:List (Int × Int)) (hR:RelsIn B w a rs) (hit:Bool) (hnow:s.now + 1 ≤ 1099511627776) (hlen:rs.length ≤ 100000) (hMx:Mx + n + rs.length + 3 ≤ 1000000) :
  Calls Tryz.prog 18 #[.pointer (some ⟨A.x,0,none⟩),.agg #[.slice a rs.length c,.bool hit]] w fun e w'=>∃ v s' ev,e = .returned (.tuple #[v,.int .i64 0]) ∧ Tick1 tk n s rs hit s' ev ∧ Inv tk n 0 s' ∧ w'.ownsRow w.heap.size 44 5 v ev.length (ev.flatMap evc) ∧
   ∃ col' so' F' hm' jbk' gs' out',XW B A bu n tk w' s' out' (Mx + n + rs.length + 2) col' F' hm' so' jbk' gs' s'.job ∧ XR col w col' w' ∧ (∀ k,v.ownBlock = some k → col' k = 0 ∧ w.heap.size ≤ k):=by
 have hn16:=h.c.n16
 have hok:=h.ok
 have hbw:=bel_alloc (Below.refl w.heap.size w) (.cells #[.slice a rs.length c,.bool hit] 55)
 have h1:=h.below hbw
 have hs0:w.heap.size < (w.alloc (.cells #[.slice a rs.length c,.bool hit] 55)).heap.size:=by simp
 have HBX:Hid (∀ (W:World) (col':Nat → Nat),XR col (w.alloc (.cells #[.slice a rs.length c,.bool hit] 55)) col' W → W.cell? ⟨w.heap.size,0,none⟩ = some (.slice a rs.length c) ∧ W.cell? ⟨w.heap.size,1,none⟩ = some (.bool hit) ∧ RelsIn B W a rs ∧ w.heap.size < W.heap.size):=fun W col' hx=>by
  have hc0:¬ col w.heap.size ≠ 0:=fun e=>by have:=(h.c.lt _ e).2;omega
  have hb0:∀ b,b < B → ¬ col b ≠ 0:=h.low.2
  refine ⟨(hx.fr.cell (p:=⟨w.heap.size,0,none⟩) hs0 hc0).trans (cell_new _ _ _ 0 _ rfl),(hx.fr.cell (p:=⟨w.heap.size,1,none⟩) hs0 hc0).trans (cell_new _ _ _ 1 _ rfl),?_,Nat.lt_of_lt_of_le hs0 hx.fr.size⟩
  exact (hR.keep h.low.1 (Fr.of_below (S:=fun _=>False) hbw) (fun _ _ h=>h)).keep (by have:=h.low.1;omega) hx.fr hb0
 have f2:=h1.f.f2
 have z9:=h1.f.fz 9
 have f9:=h1.f.f9
 obtain ⟨h2,r2⟩:=h1.noOut
 have HL:=Lib.hid (late_is h2 (by simp) (by omega))
 have HR0:=Lib.hid (XR.of_below (col:=col) hbw)
 have HR2:=Lib.hid r2
 have hng:decide ((1099511627776:Int) ≤ (s.now:Int)) = false:=decide_eq_false (by omega)
 have HI:=Lib.hid hI
 have hbig:=h.mx
 have hrl:(rs.length:Int) ≤ 100000:=by omega
 clear h h1 h2 r2 hI hR hbw
 go_enter Tryz.func18,Tryz.ntmps18
 go_wp2_with (go_at_call 39;refine HL.out.mono ?_;rintro e w2 ⟨rfl,col2,so2,hm2,H2,R2⟩;obtain ⟨b0,b1,-,hs2⟩:=HBX.out w2 col2 (HR2.out.trans R2);have HH2:=Lib.hid H2;have HRR:=Lib.hid (HR2.out.trans R2);clear HL HR2 R2 H2 f2 z9 f9)
 go_loopw [21,7] (fun ix s7 wx=>∃ k:Nat,k ≤ rs.length ∧ ix = .int .i64 k ∧ Hid (∃ sk ek col' so' F' hm' jbk' gs',Rels tk n (lateTo tk s n).1 (rs.take k) sk ek ∧ Inv tk n 0 sk ∧ InTime tk n sk ∧ ek.length ≤ k ∧ XW B A bu n tk wx sk ((lateTo tk s n).2 ++ ek) (Mx + n + k) col' F' hm' so' jbk' gs' sk.job ∧ XR col (w.alloc (.cells #[.slice a rs.length c,.bool hit] 55)) col' wx)) (fun ix _ _=>rs.length - (intOf ix).toNat)
 case atStart =>
  have hl:=(late_to (tk:=tk) s n).1
  refine ⟨0,Nat.zero_le _,rfl,(lateTo tk s n).1,[],col2,so2,F,hm2,jbk,gs,.nil _,HI.out.late hl,fun i j hi e=>by rw [hl.now];exact hl.late i j hi e,by simp,?_,HRR.out⟩
  simpa using HH2.out
 case round =>
  obtain ⟨k,hk,rfl,HX⟩:=hrel
  by_cases hlt:k < rs.length
  ·have hkI:(k:Int) < (rs.length:Int):=by omega
   have hk0:(0:Int) ≤ (k:Int):=by omega
   have hdl:decide ((k:Int) < (rs.length:Int)) = true:=decide_eq_true hkI
   obtain ⟨sk,ek,col1,so1,F1,hm1,jb1,gs1,q1,q2,q3,q4,H1,R1⟩:=HX.out
   obtain ⟨b,off,ha,hbB,hcs⟩:=(HBX.out wr col1 R1).2.2.1 (by omega)
   subst ha
   obtain ⟨c0,c1⟩:=hcs k hlt
   obtain ⟨r,hr⟩:∃ r,r = rs[k]:=⟨_,rfl⟩
   rw [← hr] at c0 c1
   have hbl:=bel_alloc (Below.refl wr.heap.size wr) (.cells #[.int .i64 r.1,.int .i64 r.2] 79)
   have HRel:=Lib.hid (rel_is (H1.below hbl) q2 q3 r (by have:=lateTo_len2 tk s n;simp only [List.length_append];omega) (by omega))
   have HR1:=Lib.hid (R1.trans (XR.of_below hbl))
   have Q1:=Lib.hid q1
   have Q4:=Lib.hid q4
   have HRK:=Lib.hid hr
   clear H1 R1 q1 q2 q3 q4 HX hcs hbl hr
   go_wp2_with (go_at_call 40;refine HRel.out.mono ?_;rintro e w6 ⟨rfl,s6,e6,p1,p2,p3,p4,col6,so6,F6,hm6,jb6,gs6,H6,R6⟩;have HN:Hid (∃ sk ek col' so' F' hm' jbk' gs',Rels tk n (lateTo tk s n).1 (rs.take (k + 1)) sk ek ∧ Inv tk n 0 sk ∧ InTime tk n sk ∧ ek.length ≤ k + 1 ∧ XW B A bu n tk w6 sk ((lateTo tk s n).2 ++ ek) (Mx + n + (k + 1)) col' F' hm' so' jbk' gs' sk.job ∧ XR col (w.alloc (.cells #[.slice (some ⟨b,off,none⟩) rs.length c,.bool hit] 55)) col' w6):=⟨s6,ek ++ e6,col6,so6,F6,hm6,jb6,gs6,by rw [take_more rs k hlt,← HRK.out];exact Q1.out.snoc p1,p2,p3,by have:=Q4.out;simp only [List.length_append];omega,by rw [← List.append_assoc];exact H6,HR1.out.trans R6⟩;clear HRel H6 R6 p1 p2 p3 p4 c0 c1)
   go_roundw
   case rel=>exact ⟨k + 1,by omega,by simp,HN⟩
   case measure=>simp [intOf];omega
  ·have hkn:k = rs.length:=by omega
   subst hkn
   have hdl:decide ((rs.length:Int) < (rs.length:Int)) = false:=decide_eq_false (by omega)
   obtain ⟨sk,ek,col1,so1,F1,hm1,jb1,gs1,q1,q2,q3,q4,H1,R1⟩:=HX.out
   obtain ⟨-,b1,-,hsr⟩:=HBX.out wr col1 R1
   have hlen1:((lateTo tk s n).2 ++ ek).length ≤ 200000:=by have:=lateTo_len2 tk s n;simp only [List.length_append];omega
   have HRun:=Lib.hid (run_is H1 hit (by omega) (by omega))
   have HR1:=Lib.hid R1
   rw [List.take_length] at q1
   have Q1:=Lib.hid q1
   have Q2:=Lib.hid q2
   have hnk:sk.now = s.now:=by have:=(rels_same q1).1;rw [this];exact (late_to (tk:=tk) s n).1.now
   clear H1 R1 q1 q2 q3 q4 HX
   have hev:∀ ev:List Ev,ev.length ≤ 5 → ((lateTo tk s n).2 ++ ek ++ ev).length ≤ 100000000:=fun ev hv=>by simp only [List.length_append] at *;omega
   go_wp2_with (first | (go_at_call 41;refine HRun.out.mono ?_;rintro e w7 ⟨rfl,s7,e7,p1,col7,so7,hm7,H7,R7⟩;have f2:=H7.f.f2;have z2:=H7.f.fz 2;have f9:=H7.f.f9;have hn7:s7.now = s.now:=(run_now p1).trans hnk;have hn8:(s7.now:Int) + 1 ≤ 1099511627776:=by { rw [hn7];omega };have hn9:(0:Int) ≤ (s7.now:Int):=Int.natCast_nonneg _;obtain ⟨H8,R8⟩:=H7.setNow (by rw [hn7];omega);have hxl7:A.x < w7.heap.size:=block_lt f2;clear hn7;have HC:=Lib.hid (clone_ev B so7 _ _ H8.o (hev _ (events_run p1)));have HH8:=Lib.hid H8;have HR8:=Lib.hid ((HR1.out.trans R7).trans R8);have P1:=Lib.hid p1;clear H7 R7 p1 HRun H8 R8) | (go_at_call 42;refine HC.out.mono ?_;rintro e w9 ⟨v9,rfl,own9,hb9⟩;have HO9:=Lib.hid own9;have HB9:=Lib.hid hb9;clear own9 hb9 HC))
   go_ret2
   refine ⟨v9,_,_,rfl,⟨Q1.out,P1.out⟩,(Q2.out.run hok P1.out).less,?_,col7,so7,F1,hm7,jb1,gs1,_,(HH8.out.below HB9.out).mxle (by omega) (by omega),?_,?_⟩
   ·have h9:=HO9.out
    rw [List.append_assoc] at h9
    exact own_base h9 (Nat.le_trans (Nat.le_of_lt hs0) (HR8.out).fr.size)
   ·exact (HR0.out.trans HR8.out).trans (XR.of_below HB9.out)
   ·intro k hk
    have hb:=ownsRow_block HO9.out k hk
    refine ⟨?_,Nat.le_trans (Nat.le_trans (Nat.le_of_lt hs0) (HR8.out).fr.size) hb⟩
    by_cases e:col7 k = 0
    ·exact e
    ·have:=(HH8.out.c.lt k e).2
     omega
end
end
section
open Go.RowKit
theorem most_any (t b g:Int) (w:World) (ht:0 ≤ t) (ht2:t ≤ 1048576) (hb:1 ≤ b) (hb2:b ≤ 1000) (hg:1 ≤ g) (hg2:g ≤ 1049576) :
  Calls Tryz.prog 117 #[.int .i64 t,.int .i64 b,.int .i64 g] w fun e w'=>e = .returned (.int .i64 (mostI t b g)) ∧ w' = w:=by
 by_cases h0:t = 0
 ·have d0:(t == 0) = true:=beq_iff_eq.2 h0
  have HM:Hid (mostI t b g = 0):=if_pos h0
  clear h0
  go_enter Tryz.func117,Tryz.ntmps117
  go_wp2_with fail
  go_ret
  exact ⟨by rw [HM.out];rfl,rfl⟩
 ·have d0:(t == 0) = false:=beq_eq_false_iff_ne.2 h0
  have HM:Hid (mostI t b g = ceilI (t + b - 1) g):=by
   show mostI t b g = _
   unfold mostI ceilI;rw [if_neg h0]
  have HC:=Lib.hid (fun w=>ceil_any (t + b - 1) g w (by omega) hg (by omega) (by omega))
  clear h0
  go_enter Tryz.func117,Tryz.ntmps117
  go_wp2_with (go_at_call 119;refine (HC.out _).mono ?_;rintro e w' ⟨rfl,rfl⟩)
  go_ret
  exact ⟨by rw [HM.out];rfl,rfl⟩
theorem add_big (a b:Int) (w:World) (ha:0 ≤ a) (hb:0 ≤ b) (hab:a + b ≤ 4611686018427387904) :
  Calls Tryz.prog 97 #[.int .i64 a,.int .i64 b] w fun e w'=>e = .returned (.tuple #[.int .i64 (a + b),.bool true]) ∧ w' = w:=by
 go_enter Tryz.func97,Tryz.ntmps97
 go_wp2_with (go_at_call 141;refine (time_any _ _).mono ?_;rintro e w' ⟨rfl,rfl⟩)
 all_goals go_ret2
 all_goals exact ⟨rfl,rfl⟩
def sumI (l:List Int):Int:=l.sum
theorem sumI_bd (l:List Int) (c:Int) (h:∀ x ∈ l,0 ≤ x ∧ x ≤ c):0 ≤ sumI l ∧ sumI l ≤ l.length * c:=by
 induction l with
 | nil=>simp [sumI]
 | cons a l ih =>
  have h1:=h a List.mem_cons_self
  have h2:=ih fun x hx=>h x (List.mem_cons_of_mem _ hx)
  unfold sumI at *
  simp only [List.sum_cons,List.length_cons]
  have:((l.length + 1:Nat):Int) * c = l.length * c + c:=by push_cast;rw [Int.add_mul];omega
  omega
theorem sumI_take (l:List Int) (k:Nat) (h:k < l.length):sumI (l.take (k + 1)) = sumI (l.take k) + l[k]:=by
 unfold sumI
 rw [take_more l k h,List.sum_append]
 simp
theorem sum_any (B:Nat) (a:Option Addr) (n c:Nat) (xs:List Int) (w:World) (hx:IntsIn B w a n xs) (hn:n ≤ 40) (hxs:∀ x ∈ xs,0 ≤ x ∧ x ≤ 72057594037927936) :
  Calls Tryz.prog 120 #[.slice a n c] w fun e w'=>e = .returned (.tuple #[.int .i64 (sumI xs),.bool true]) ∧ w' = w:=by
 obtain ⟨hlen,hx⟩:=hx
 have HX:=Lib.hid hx
 have HXS:=Lib.hid hxs
 have hnI:(n:Int) ≤ 40:=by omega
 clear hx hxs
 go_enter Tryz.func120,Tryz.ntmps120
 go_wp2_with fail
 go_loopw [10,4,5,7] (fun ix s4 s5 s7 wx=>∃ k:Nat,k ≤ n ∧ ix = .int .i64 k ∧ s4 = .int .i64 (sumI (xs.take k)) ∧ wx = w) (fun ix _ _ _ _=>n - (intOf ix).toNat)
 case atStart=>exact ⟨0,Nat.zero_le _,rfl,rfl,rfl⟩
 case round =>
  obtain ⟨k,hk,rfl,rfl,rfl⟩:=hrel
  by_cases hlt:k < n
  ·have hkI:(k:Int) < (n:Int):=by omega
   have hk0:(0:Int) ≤ (k:Int):=by omega
   have hdl:decide ((k:Int) < (n:Int)) = true:=decide_eq_true hkI
   obtain ⟨b,off,rfl,hb,hc⟩:=HX.out (by omega)
   have hck:=hc k (by omega)
   have ht:=sumI_take xs k (by omega)
   have hbd:=sumI_bd (xs.take k) 72057594037927936 fun x hx=>HXS.out x (List.mem_of_mem_take hx)
   have hbk:=HXS.out xs[k] (List.getElem_mem _)
   rw [List.length_take] at hbd
   obtain ⟨y,hy⟩:∃ y,xs[k] = y:=⟨_,rfl⟩
   obtain ⟨q,hq⟩:∃ q,sumI (xs.take k) = q:=⟨_,rfl⟩
   rw [hy] at hck ht hbk
   rw [hq] at ht hbd ⊢
   have hmul:((min k xs.length:Nat):Int) * 72057594037927936 ≤ 40 * 72057594037927936:=Int.mul_le_mul_of_nonneg_right (by omega) (by omega)
   have HT:Hid (q + y = sumI (xs.take (k + 1))):=ht.symm
   have HA:=Lib.hid (fun w=>add_big q y w (by omega) (by omega) (by omega))
   clear hy hq ht hmul hc hlen hbd hbk
   go_wp2_with (go_at_call 97;refine (HA.out _).mono ?_;rintro e w' ⟨rfl,rfl⟩)
   go_roundw
   case rel=>exact ⟨k + 1,by omega,by simp,by rw [HT.out],by simp⟩
   case measure=>simp [intOf];omega
  ·have hkn:k = n:=by omega
   subst hkn
   have hdl:decide ((k:Int) < (k:Int)) = false:=decide_eq_false (by omega)
   rw [List.take_of_length_le (by omega)]
   go_wp2_with fail
   go_ret2
   exact ⟨rfl,rfl⟩
end
end Go.Proofs.YtnoahekcemfmcaaGreatDoor
