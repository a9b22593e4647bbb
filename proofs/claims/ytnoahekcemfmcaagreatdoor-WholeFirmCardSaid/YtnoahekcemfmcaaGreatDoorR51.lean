/- A part of the walk: Mc Mf Mg. -/
import Derived.Test.YtnoahekcemfmcaaGreatDoorRows
import Derived.Test.YtnoahekcemfmcaaGreatDoorR42
import Derived.Test.YtnoahekcemfmcaaGreatDoorR08
import Derived.WalkKit
import Derived.ProofKit
import Derived.OpenShut
import Derived.ChangeOld
import Derived.Below
import Derived.Deep.Slices
import Derived.Deep.Fields
import Derived.ChangeSame
import Derived.Lib.SmallJoins
import Derived.SizedLaws
import Derived.Test.YtnoahekcemfmcaaGreatDoorR47
import Derived.Test.YtnoahekcemfmcaaGreatDoorR50
import Derived.Test.YtnoahekcemfmcaaGreatDoorCards
import Derived.Test.YtnoahekcemfmcaaGreatDoorTie
import Derived.ChangeVars
import Derived.JoinedOf
import Derived.LaidLaws
import Derived.LaidHandle
import Derived.LaidMore
import Derived.Lay
import Derived.MakeChecks
import Derived.SevenTiedAt
import Derived.Stop.Joined
namespace Go.Proofs.YtnoahekcemfmcaaGreatDoor
set_option linter.unusedVariables false
set_option linter.unusedSimpArgs false
set_option maxHeartbeats 80000000
set_option maxRecDepth 100000
section
open Go.ChangeShapes Go.WideShapes Go.ChangeAt Go.RowKit Go.Deep Go.Joins
theorem own:ownKnob Tryz.prog.godebug = none:=by kernel_rfl
theorem laidOut:laidOutB Tryz.prog = true:=by kernel_rfl
section
variable {H:Type} {enc:TypeId × Value → H} {P:Program} {w:World} {base:Nat} {spare:Nat → Bool} {held:Bool}
theorem open_slice_fields {t e:TypeId} {fs:Array Field} {fuel:Nat} {cs:List Value} {x:DataW H × List MemPlace} (ht:P.underlying t = some (.slice e)) (he:P.underlying e = some (.struct fs))
  (hone:oneCellFields P fs = true) (hC:P.cellsOf e = fs.size) (h:DataW.trod enc P w base spare held fuel t cs = some x) :
  (cs = [.slice none 0 0] ∧ x = (.nil,[])) ∨
  ∃ (a:Addr) (len cap m:Nat) (D:Nat → DataW H) (Pl:Nat → List MemPlace),cs = [.slice (some a) len cap] ∧ base ≤ a.block ∧ len ≤ cap ∧ cap ≤ maxLen ∧ m = (if spare a.block then cap else len) ∧
   x = (.slice ((List.range len).map D) ((List.range (m - len)).map fun j=>D (len + j)),MemPlace.row a (m * fs.size) ++ (List.range m).flatMap Pl) ∧
   ∀ i,i < m → ∃ (ys:List (DataW H × List MemPlace)) (n:Nat),D i = .agg (ys.map (·.1)) ∧ Pl i = ys.flatMap (·.2) ∧ ys.length = fs.size ∧
    ∀ (j:Nat) (f:Field),fs[j]? = some f → ∃ (v:Value) (y:DataW H × List MemPlace),w.cell? (a.add (i * fs.size + j)) = some v ∧ ys[j]? = some y ∧ DataW.trod enc P w base spare held n f.type [v] = some y:=by
 rcases open_slice ht h with h0 | ⟨a,len,cap,m,n,D,Pl,hcs,hb,hl,hm,hmm,hx,hi⟩
 ·exact .inl h0
 ·refine .inr ⟨a,len,cap,m,D,Pl,hcs,hb,hl,hm,hmm,by rw [hC] at hx;exact hx,fun i him=>?_⟩
  obtain ⟨cs',hc,ht'⟩:=hi i him
  rw [hC] at hc
  obtain ⟨ys,n',hn',hy,hlen,hyl,hf⟩:=DataW.trod_struct he ht'
  obtain ⟨_,hcl,hat⟩:=World.cells?_some hc
  simp only [Prod.mk.injEq] at hy
  refine ⟨ys,n',hy.1,hy.2,hyl,fun j f hj=>?_⟩
  obtain ⟨ho,hk⟩:=hone_of hone j f hj
  have hjl:j < fs.size:=(Array.getElem?_eq_some_iff.1 hj).1
  have hcell:=hat j hjl
  have hv:cs'[j]? = some (cs'[j]'(by omega)):=List.getElem?_eq_getElem (by omega)
  have h1:=hf j f hj
  rw [ho,hk] at h1
  have hone':(cs'.drop j).take 1 = [cs'[j]'(by omega)]:=by
   rw [List.drop_eq_getElem_cons (by omega)]
   rfl
  rw [hone'] at h1
  have hys:ys[j]? = some (ys[j]'(by omega)):=List.getElem?_eq_getElem (by omega)
  refine ⟨_,_,?_,hys,h1.trans hys⟩
  rw [← Go.Deep.add_add,hcell,hv]
end
section
variable {H:Type} {enc:TypeId × Value → H} {w:World} {spare:Nat → Bool} {held:Bool} {base:Nat}
theorem int_one {fuel:Nat} {u:Value} {x:DataW H × List MemPlace} (h:DataW.trod enc Tryz.prog w base spare held fuel 3 [u] = some x):∃ n,u = .int .i64 n:=by
 obtain ⟨n,e,_,hw⟩:=DataW.trod_int Tryz.underlying3 h
 simp at e
 exact ⟨n,e⟩
theorem bool_one {fuel:Nat} {u:Value} {x:DataW H × List MemPlace} (h:DataW.trod enc Tryz.prog w base spare held fuel 4 [u] = some x):∃ n,u = .bool n:=by
 obtain ⟨n,e,_⟩:=DataW.trod_bool Tryz.underlying4 h
 simp at e
 exact ⟨n,e⟩
theorem str_one {fuel t:Nat} (ht:Tryz.prog.underlying t = some .string) {u:Value} {x:DataW H × List MemPlace} (h:DataW.trod enc Tryz.prog w base spare held fuel t [u] = some x):∃ n,u = .string n:=by
 obtain ⟨n,e,_⟩:=DataW.trod_string ht h
 simp at e
 exact ⟨n,e⟩
theorem tasks_of {fuel:Nat} {v:Value} {x:DataW H × List MemPlace}
  (h:DataW.trod enc Tryz.prog w base spare held fuel 22 [v] = some x) :
  ∃ a n c tk,v = .slice a n c ∧ TksIn w.heap.size w a n tk ∧ n ≤ 9223372036854775807 ∧ n ≤ c:=by
 rcases open_slice_fields Tryz.underlying22 Tryz.underlying41 (by kernel_rfl) (by kernel_rfl) h with ⟨hcs,_⟩ | ⟨a,l,c,m,D,Pl,hcs,_,hl,hm,hmm,_,hat⟩
 ·simp at hcs;subst hcs
  exact ⟨none,0,0,fun _=>⟨⟨#[]⟩,0,0,0,0,0,0,0,0,0,0⟩,rfl,fun h=>by omega,by omega,by omega⟩
 ·simp at hcs;subst hcs
  have hlm:l ≤ m:=by rw [hmm];split <;> omega
  have hx:∀ i,∃ t:Tk,i < l → ∀ (k:Nat) (u:Value),(tkc t)[k]? = some u → w.cell? (a.add (i * 11 + k)) = some u:=by
   intro i
   by_cases hi:i < l
   ·obtain ⟨ys,nn,_,_,_,hf⟩:=hat i (by omega)
    obtain ⟨v0,y0,c0,_,t0⟩:=hf 0 _ rfl
    obtain ⟨v1,y1,c1,_,t1⟩:=hf 1 _ rfl
    obtain ⟨v2,y2,c2,_,t2⟩:=hf 2 _ rfl
    obtain ⟨v3,y3,c3,_,t3⟩:=hf 3 _ rfl
    obtain ⟨v4,y4,c4,_,t4⟩:=hf 4 _ rfl
    obtain ⟨v5,y5,c5,_,t5⟩:=hf 5 _ rfl
    obtain ⟨v6,y6,c6,_,t6⟩:=hf 6 _ rfl
    obtain ⟨v7,y7,c7,_,t7⟩:=hf 7 _ rfl
    obtain ⟨v8,y8,c8,_,t8⟩:=hf 8 _ rfl
    obtain ⟨v9,y9,c9,_,t9⟩:=hf 9 _ rfl
    obtain ⟨v10,y10,c10,_,t10⟩:=hf 10 _ rfl
    obtain ⟨n0,e0⟩:=str_one (by kernel_rfl) t0
    obtain ⟨n1,e1⟩:=int_one t1
    obtain ⟨n2,e2⟩:=int_one t2
    obtain ⟨n3,e3⟩:=int_one t3
    obtain ⟨n4,e4⟩:=int_one t4
    obtain ⟨n5,e5⟩:=int_one t5
    obtain ⟨n6,e6⟩:=int_one t6
    obtain ⟨n7,e7⟩:=int_one t7
    obtain ⟨n8,e8⟩:=int_one t8
    obtain ⟨n9,e9⟩:=int_one t9
    obtain ⟨n10,e10⟩:=int_one t10
    subst e0 e1 e2 e3 e4 e5 e6 e7 e8 e9 e10
    refine ⟨⟨n0,n1,n2,n3,n4,n5,n6,n7,n8,n9,n10⟩,fun _ k u hu=>?_⟩
    match k,hu with
    | 0,hu=>cases hu;exact c0
    | 1,hu=>cases hu;exact c1
    | 2,hu=>cases hu;exact c2
    | 3,hu=>cases hu;exact c3
    | 4,hu=>cases hu;exact c4
    | 5,hu=>cases hu;exact c5
    | 6,hu=>cases hu;exact c6
    | 7,hu=>cases hu;exact c7
    | 8,hu=>cases hu;exact c8
    | 9,hu=>cases hu;exact c9
    | 10,hu=>cases hu;exact c10
    | k + 11,hu=>cases hu
   ·exact ⟨⟨⟨#[]⟩,0,0,0,0,0,0,0,0,0,0⟩,fun h=>absurd h hi⟩
  obtain ⟨f,hf⟩:=Classical.skolem.1 hx
  refine ⟨some a,l,c,f,rfl,fun h0=>?_,by unfold maxLen at hm;omega,hl⟩
  obtain ⟨b,off,spot⟩:=a
  have hc0:=hf 0 h0 0 _ rfl
  have hsp:=World.cell?_spot hc0
  simp only [Addr.add,Nat.zero_mul,Nat.zero_add,if_true] at hsp
  have:spot = none:=hsp
  subst this
  refine ⟨b,off,rfl,block_lt hc0,fun j hj k u hu=>?_⟩
  have h1:=hf j hj k u hu
  rw [add_none] at h1
  rw [Nat.add_assoc]
  exact h1
theorem Tryz.one24 : oneCellFields Tryz.prog #[{ name := "Burst", type := 3, offset := 0, embedded := false, tag := "", pkgPath := "", byteOffset := 0 }, { name := "Tasks", type := 22, offset := 1, embedded := false, tag := "", pkgPath := "", byteOffset := 8 }] = true := by kernel_rfl
theorem Tryz.cells24:Tryz.prog.cellsOf 24 = 2:=by kernel_rfl
theorem set_of {r:Reach} {b0:Nat} {v:Value} {d:DataW H} {p:List MemPlace} (hv:Value.okWide Tryz.prog w r b0 24 v) (h:DataW.Trod enc Tryz.prog w base spare held 24 v d p) :
  ∃ bu a n c tk,v = .agg #[.int .i64 bu,.slice a n c] ∧ TksIn w.heap.size w a n tk ∧ n ≤ 9223372036854775807 ∧ n ≤ c:=by
 obtain ⟨v0,v1,y0,y1,m,rfl,_,_,h0,h1⟩:=open_agg2 (P:=Tryz.prog) (t:=24) Tryz.underlying24 Tryz.one24 Tryz.cells24 hv h
 obtain ⟨bu,e0⟩:=int_one h0
 obtain ⟨a,n,c,tk,e1,i1,i2,i3⟩:=tasks_of h1
 subst e0 e1
 exact ⟨bu,a,n,c,tk,rfl,i1,i2,i3⟩
end
end
section
open Go.ChangeShapes Go.WideShapes Go.ChangeAt Go.RowKit Go.Deep Go.Joins
section
variable {H:Type} {enc:TypeId × Value → H} {w:World} {spare:Nat → Bool} {held:Bool} {base:Nat}
theorem asks_of {fuel:Nat} {v:Value} {x:DataW H × List MemPlace}
  (h:DataW.trod enc Tryz.prog w base spare held fuel 25 [v] = some x) :
  ∃ a c,∃ l:List AskT,v = .slice a l.length c ∧ AsksIn w.heap.size w a l ∧ l.length ≤ 9223372036854775807 ∧ ∀ x ∈ l,0 ≤ x.1 ∧ x.1 < 65536 ∧ 0 ≤ x.2.1 ∧ x.2.1 < 256:=by
 rcases open_slice_fields Tryz.underlying25 Tryz.underlying68 (by kernel_rfl) (by kernel_rfl) h with ⟨hcs,_⟩ | ⟨a,l,c,m,D,Pl,hcs,_,hl,hm,hmm,_,hat⟩
 ·simp at hcs;subst hcs
  exact ⟨none,0,[],rfl,fun h=>by simp at h,by simp,by simp⟩
 ·simp at hcs;subst hcs
  have hlm:l ≤ m:=by rw [hmm];split <;> omega
  have hx:∀ i,∃ y:AskT,(0 ≤ y.1 ∧ y.1 < 65536 ∧ 0 ≤ y.2.1 ∧ y.2.1 < 256) ∧ (i < l → w.cell? (a.add (i * 3)) = some (.int .u16 y.1) ∧ w.cell? (a.add (i * 3 + 1)) = some (.int .u8 y.2.1) ∧ w.cell? (a.add (i * 3 + 2)) = some (.bool y.2.2)):=by
   intro i
   by_cases hi:i < l
   ·obtain ⟨ys,nn,_,_,_,hf⟩:=hat i (by omega)
    obtain ⟨v0,y0,c0,_,t0⟩:=hf 0 _ rfl
    obtain ⟨v1,y1,c1,_,t1⟩:=hf 1 _ rfl
    obtain ⟨v2,y2,c2,_,t2⟩:=hf 2 _ rfl
    obtain ⟨n0,e0,_,w0⟩:=DataW.trod_int (k:=.u16) (by kernel_rfl) t0
    obtain ⟨n1,e1,_,w1⟩:=DataW.trod_int (k:=.u8) (by kernel_rfl) t1
    obtain ⟨n2,e2⟩:=bool_one t2
    simp at e0 e1
    subst e0 e1 e2
    refine ⟨(n0,n1,n2),?_,fun _=>⟨c0,c1,c2⟩⟩
    simp only [Lit.wf,Bool.and_eq_true,decide_eq_true_eq] at w0 w1
    have m0:IntKind.u16.min = 0:=by decide
    have m1:IntKind.u16.max = 65535:=by decide
    have m2:IntKind.u8.min = 0:=by decide
    have m3:IntKind.u8.max = 255:=by decide
    rw [m0,m1] at w0
    rw [m2,m3] at w1
    show 0 ≤ n0 ∧ n0 < 65536 ∧ 0 ≤ n1 ∧ n1 < 256
    omega
   ·exact ⟨(0,0,false),by simp,fun h=>absurd h hi⟩
  obtain ⟨f,hf⟩:=Classical.skolem.1 hx
  refine ⟨some a,c,(List.range l).map f,by simp,fun h0=>?_,by simp;unfold maxLen at hm;omega,fun x hx=>?_⟩
  ·have h0':0 < l:=by simpa using h0
   obtain ⟨b,off,spot⟩:=a
   have hc0:=((hf 0).2 h0').1
   have hsp:=World.cell?_spot hc0
   simp only [Addr.add,Nat.zero_mul,if_true] at hsp
   have:spot = none:=hsp
   subst this
   refine ⟨b,off,rfl,block_lt hc0,fun j hj=>?_⟩
   have hj':j < l:=by simpa using hj
   obtain ⟨h1,h2,h3⟩:=(hf j).2 hj'
   rw [add_none] at h1 h2 h3
   simp only [List.getElem_map,List.getElem_range]
   exact ⟨h1,h2,h3⟩
  ·obtain ⟨i,_,rfl⟩:=List.mem_map.1 hx
   exact (hf i).1
end
end
end Go.Proofs.YtnoahekcemfmcaaGreatDoor
namespace Go.Proofs.YtnoahekcemfmcaaGreatDoor.wholeFirmDone
open Go.ChangeShapes Go.WideShapes Go.ChangeAt Go.RowKit
set_option linter.unusedVariables false
set_option maxHeartbeats 2000000 in
set_option maxRecDepth 100000 in
theorem lifted (os:Os) (started:os.Started) (H:Type) (enc:TypeId × Value → H) :
  ReturnsInHanded {} Tryz.checked os 3 .any (fun w args=>(Rows.wholeFirmSpec.pre enc Tryz.prog Tryz.f3 Rows.wholeFirmRow.domain false w args ∧ laidMetH Tryz.prog Rows.wholeFirmRow.laid w) ∧ sizedMet enc Tryz.prog Tryz.f3 (OpenSpec.ofChange Rows.wholeFirmSpec) false w args)
   (Rows.wholeFirmSpec.post enc Tryz.prog Tryz.f3 false true false false):=by
 refine returnsInHanded_of_change_and (C:=Tryz.checked) (X:=fun w _=>laidMetH Tryz.prog Rows.wholeFirmRow.laid w) (fun _ _ _ hh h=>h.of_heap hh) own started (by kernel_rfl) Tryz.func3
  (ChangeSpec.witness_shaped (enc:=enc) (C:=Tryz.checked) (os:=os) (X:=fun w _=>laidMetH Tryz.prog Rows.wholeFirmRow.laid w) false (World.laidAll Tryz.prog os Rows.wholeFirmRow.laid) #[.agg #[.int .i64 0,.slice none 0 0],.bool false,.slice none 0 0] 8 (World.laidAll_os _ _ _)
   (World.shaped_of_ZipB (by kernel_rfl) (by kernel_rfl)) (by kernel_rfl) (by kernel_rfl) (by kernel_rfl)
   (by rw [MakeChecks.laidMetH_plain _ _ _ (by kernel_rfl)];exact laidMet_laidAll _ (by kernel_rfl) (by kernel_rfl))) ?_
 intro W base args ds gs before hval0 hW hc hsz hL _
 have hval:∀ (j:Nat) t v,Tryz.f3.params[j]? = some t → args[j]? = some v → Value.okWide Tryz.prog W .any base t v:=hval0
 have hW':=hW
 obtain ⟨p,q,hA0,hV,rfl,hfz,hnd⟩:=hW
 have hA:DataW.TrodAll enc Tryz.prog W 0 (fun _=>true) true Tryz.f3.params.toList args.toList ds p:=hA0
 rw [Tryz.params3] at hA hval
 obtain ⟨v0,vs0,d0,ds0,p0,q0,hargs,rfl,rfl,h0,r0⟩:=trodAll_cons hA
 obtain ⟨v1,vs1,d1,ds1,p1,q1,rfl,rfl,rfl,h1,r1⟩:=trodAll_cons r0
 obtain ⟨v2,vs2,d2,ds2,p2,q2,rfl,rfl,rfl,h2,r2⟩:=trodAll_cons r1
 obtain ⟨rfl,rfl,rfl⟩:=trodAll_nil r2
 obtain rfl:args = #[v0,v1,v2]:=by cases args;simp_all
 obtain ⟨rfl,rfl⟩:=trodVars_none hV
 have k0:=h0
 have k1:=h1
 have k2:=h2
 have lt0:∀ x ∈ p0,x.block < W.heap.size:=by obtain ⟨m,hm⟩:=k0;exact DataW.trod_lt m _ _ _ hm
 have lt1:∀ x ∈ p1,x.block < W.heap.size:=by obtain ⟨m,hm⟩:=k1;exact DataW.trod_lt m _ _ _ hm
 have lt2:∀ x ∈ p2,x.block < W.heap.size:=by obtain ⟨m,hm⟩:=k2;exact DataW.trod_lt m _ _ _ hm
 obtain ⟨bu,a,n,c,tk,rfl,I0,L0,C0⟩:=set_of (hval 0 24 v0 rfl rfl) h0
 obtain ⟨deep,rfl⟩:∃ b,v1 = .bool b:=okWide_bool Tryz.underlying4 (hval 1 4 v1 rfl rfl)
 obtain ⟨a1,len1,cap1,rfl⟩:=okWide_slice Tryz.underlying25 (hval 2 25 v2 rfl rfl)
 obtain ⟨ai,ci,l,e1,I1,L1,M1⟩:∃ a c,∃ l:List AskT,Value.slice a1 len1 cap1 = .slice a l.length c ∧ AsksIn W.heap.size W a l ∧ l.length ≤ 9223372036854775807 ∧ ∀ x ∈ l,0 ≤ x.1 ∧ x.1 < 65536 ∧ 0 ≤ x.2.1 ∧ x.2.1 < 256:=by
  obtain ⟨fuel,hf⟩:=h2
  exact asks_of hf
 cases e1
 clear hA0 hval0
 refine (firm_walk W.heap.size bu a n c tk _ _ l deep W I0 I1 (Nat.le_refl _) L0 C0 L1 M1).mono fun e W' ⟨he,bel⟩=>?_
 subst he
 exact ⟨_,rfl,_,_,_,[],_,[],hW',trodAll_mk1 (shut_bool Tryz.underlying4 _),(trodAll_cons_mk (Below.trod laidOut (by kernel_rfl) (of_decide_eq_true (by kernel_rfl)) k0 bel lt0) (trodAll_cons_mk (Below.trod laidOut (by kernel_rfl) (of_decide_eq_true (by kernel_rfl)) k1 bel lt1) (trodAll_cons_mk (Below.trod laidOut (by kernel_rfl) (of_decide_eq_true (by kernel_rfl)) k2 bel lt2) trodAll_mk0))),rfl,bel.frame _,fun h=>by cases h⟩
theorem over:Rows.wholeFirmRow.holds Tryz.pinned (OpenSpec.ofChange Rows.wholeFirmSpec) :=
 OpenClaim.holds_of_wide 3 Tryz.f3 rfl rfl rfl rfl rfl rfl rfl ⟨rfl,rfl,rfl,rfl,rfl⟩ rfl rfl rfl rfl rfl (by kernel_rfl) Tryz.func3 (by kernel_rfl)
  (of_decide_eq_true (by kernel_rfl)) (by unfold Func.isWrapper;first | (rw [if_pos (by decide +kernel)];kernel_rfl) | (rw [if_neg (by decide +kernel)];exact ⟨rfl,rfl⟩))
  (fun os started H enc _=>lifted os started H enc)
theorem proved:Rows.WholeFirmCardSaid :=
 Claim7.holds_tied_plain_at .later [] [.data, .pinned] true (true, "6537da0c22dfd081b475b6a7c1c5e4a04af4c3010ebbdf39129f2a149bd56533") false over (fun _ h => by cases h) (by kernel_rfl) (fun _ h => by cases h) wholeFirm_row_tie rfl ⟨rfl, rfl⟩ (by kernel_rfl) rfl
  (fun f fn hf hfn=>by
   obtain rfl : f = 3 := Option.some.inj ((show Tryz.prog.funcNamed "pendulum/pendulumtop.WholeFirm" = some 3 by kernel_rfl).symm.trans hf) |>.symm
   obtain rfl:fn = Tryz.f3:=(Option.some.inj (Tryz.func3.symm.trans hfn)).symm
   exact ⟨by kernel_rfl,fun j t ht=>by
    rw [Tryz.params3] at ht
    have hm:t ∈ [24,4,25]:=by simpa using Array.mem_of_getElem? ht
    have hall:([24,4,25].all fun u=>!Tryz.prog.wantsStandIn u) = true:=by kernel_rfl
    exact (show Tryz.prog.wantsStandIn t = false by simpa using List.all_eq_true.1 hall t hm)⟩)
  (by kernel_rfl)
end Go.Proofs.YtnoahekcemfmcaaGreatDoor.wholeFirmDone
namespace Go.Proofs.YtnoahekcemfmcaaGreatDoor
set_option linter.unusedVariables false
set_option linter.unusedSimpArgs false
end Go.Proofs.YtnoahekcemfmcaaGreatDoor
