/- A part of the walk: Nb. -/
import Derived.Test.YtnoahekcemfmcaaGreatDoorR47
import Derived.Laws.Shifts
namespace Go.Proofs.YtnoahekcemfmcaaGreatDoor
set_option linter.unusedVariables false
set_option linter.unusedSimpArgs false
set_option maxHeartbeats 80000000
set_option maxRecDepth 100000
section
open Go.RowKit
theorem Tryz.info79:(Tryz.prog.info? 79).map (fun i=>(i.zero,i.size,i.bytes)) = some (some (.agg #[.int .i64 0,.int .i64 0]),2,16):=by kernel_rfl
theorem Tryz.info55:(Tryz.prog.info? 55).map (fun i=>(i.zero,i.size,i.bytes)) = some (some (.agg #[.slice none 0 0,.bool false]),2,32):=by kernel_rfl
theorem frz_new (w:World) (cs:Array Value) (T:TypeId) (b o:Nat) (hb:b = w.heap.size):(w.alloc (.cells cs T)).frozen? ⟨b,o,none⟩ = false:=by
 subst hb
 exact World.frozen?_alloc_new _ cs T o
structure InW (w0 w:World) (n g p:Nat) (f:Nat → Int) (vr:Value) (rs:List (Int × Int)):Prop where
 op:OpW 0 n w g f
 c0:w.cell? ⟨p,0,none⟩ = some vr
 c1:w.cell? ⟨p,1,none⟩ = some (.bool false)
 cz:∀ o,w.frozen? ⟨p,o,none⟩ = false
 o:w.ownsRow (p + 1) 79 2 vr rs.length (rs.flatMap prc)
 fr:Fr (fun b=>b = g) w0 w
 pw:p = w0.heap.size
 gp:g < p
theorem InW.below {w0 w w':World} {n g p:Nat} {f:Nat → Int} {vr:Value} {rs:List (Int × Int)} (h:InW w0 w n g p f vr rs) (hb:Below w.heap.size w w'):InW w0 w' n g p f vr rs :=
 ⟨h.op.below hb,cell_bel hb h.c0,cell_bel hb h.c1,fun o=>((Fr.of_below (S:=fun _=>False) hb).frozen (p:=⟨p,o,none⟩) (show p < _ from block_lt h.c0) (by simp)).trans (h.cz o),
  own_fr2 h.o (Fr.of_below (S:=fun _=>False) hb) (fun _ _ t=>t),h.fr.trans (Fr.of_below (S:=fun _=>False) hb) (fun _ _ e=>e) (fun _ _ e=>e.elim),h.pw,h.gp⟩
theorem InW.no {wo w:World} {n g p:Nat} {T:Nat → Int} {t:Int} {f:Nat → Int} {q:Nat → Bool} {d:Nat → Int} {vr:Value} {i:Nat} (h:InW wo w n g p (opnK T t f q i) vr (relK t f q d i)) (hc:¬ (f i ≤ t ∧ q i = true)):InW wo w n g p (opnK T t f q (i + 1)) vr (relK t f q d (i + 1)):=by
 have e:relK t f q d (i + 1) = relK t f q d i:=by show (if _ then _ else _) = _;rw [if_neg hc]
 rw [e]
 exact { h with op:=h.op.congr fun j _=>opnK_no T t f q i j hc }
theorem InW.yes {wo wt w7:World} {n g p:Nat} {T:Nat → Int} {t:Int} {f:Nat → Int} {q:Nat → Bool} {d:Nat → Int} {vr v7:Value} {i:Nat} {o:Obj} (h:InW wo wt n g p (opnK T t f q i) vr (relK t f q d i)) (hi:i < n) (hc:f i ≤ t ∧ q i = true) (hgr:(wt.alloc o).grownBy w7 vr.ownBlock)
  (hown:w7.ownsRow (p + 1) 79 2 v7 ((relK t f q d i).length + 1) ((relK t f q d i).flatMap prc ++ [.int .i64 (i:Nat),.int .i64 (d i)])) :
  Fr (fun b=>vr.ownBlock = some b) wt w7 ∧ InW wo ((w7.setCell ⟨p,0,none⟩ v7).setCell ⟨g,i,none⟩ (.int .i64 (t + T i))) n g p (opnK T t f q (i + 1)) v7 (relK t f q d (i + 1)) ∧ Fr (fun b=>b = p ∨ b = g ∨ vr.ownBlock = some b) wt ((w7.setCell ⟨p,0,none⟩ v7).setCell ⟨g,i,none⟩ (.int .i64 (t + T i))):=by
 have e:relK t f q d (i + 1) = relK t f q d i ++ [((i:Int),d i)]:=by show (if _ then _ else _) = _;rw [if_pos hc]
 have F1:Fr (fun b=>vr.ownBlock = some b) wt w7:=Fr.grown ((Fr.refl _ wt).alloc o) hgr (fun b e _=>e)
 have F2:Fr (fun b=>b = p ∨ b = g ∨ vr.ownBlock = some b) wt w7:=F1.mono fun b _ e=>.inr (.inr e)
 have F3:=(F2.setCell (p:=⟨p,0,none⟩) (.inl rfl) v7).setCell (p:=⟨g,i,none⟩) (.inr (.inl rfl)) (.int .i64 (t + T i))
 have hvr:∀ b,vr.ownBlock = some b → p + 1 ≤ b:=fun b e=>ownsRow_block h.o b e
 have hv7:∀ b,v7.ownBlock = some b → p + 1 ≤ b:=fun b e=>ownsRow_block hown b e
 have hgp:=h.gp
 have hpl:p < wt.heap.size:=block_lt h.c0
 have hop:OpW 0 n w7 g (opnK T t f q i):=⟨fun j hj=>(F1.cell (p:=⟨g,j,none⟩) h.op.b2 (fun e=>by have:=hvr g e;omega)).trans (h.op.c j hj),fun j=>(F1.frozen (p:=⟨g,j,none⟩) h.op.b2 (fun e=>by have:=hvr g e;omega)).trans (h.op.z j),h.op.b1,Nat.lt_of_lt_of_le h.op.b2 F1.size⟩
 have hop2:OpW 0 n (w7.setCell ⟨p,0,none⟩ v7) g (opnK T t f q i):=⟨fun j hj=>by rw [World.cell?_setCell_other _ _ _ _ (addr_ne' (by omega))];exact hop.c j hj,fun j=>by rw [World.frozen?_setCell];exact hop.z j,hop.b1,by simpa [World.setCell] using hop.b2⟩
 have p0:w7.cell? ⟨p,0,none⟩ = some vr:=(F1.cell (p:=⟨p,0,none⟩) hpl (fun e=>by have:=hvr p e;omega)).trans h.c0
 have p1:w7.cell? ⟨p,1,none⟩ = some (.bool false):=(F1.cell (p:=⟨p,1,none⟩) hpl (fun e=>by have:=hvr p e;omega)).trans h.c1
 refine ⟨F1,⟨(hop2.set i _ hi).congr fun j _=>opnK_yes T t f q i j hc,?_,?_,fun o=>?_,?_,?_,h.pw,hgp⟩,F3⟩
 ·rw [World.cell?_setCell_other _ _ _ _ (addr_ne' (by omega)),World.cell?_setCell_same _ _ _ p0]
 ·rw [World.cell?_setCell_other _ _ _ _ (addr_ne' (by omega)),World.cell?_setCell_other _ _ _ _ (addr_ne (by omega))];exact p1
 ·rw [World.frozen?_setCell,World.frozen?_setCell,F1.frozen (p:=⟨p,o,none⟩) hpl (fun e=>by have:=hvr p e;omega)];exact h.cz o
 ·rw [e,List.flatMap_append,List.length_append]
  exact own_fr2 (own_fr2 hown ((Fr.refl (fun b=>b = p) w7).setCell (p:=⟨p,0,none⟩) rfl v7) (fun b hb e=>by have:=hv7 b hb;omega)) ((Fr.refl (fun b=>b = g) _).setCell (p:=⟨g,i,none⟩) rfl _) (fun b hb e=>by have:=hv7 b hb;omega)
 ·refine h.fr.trans F3 (fun _ _ e=>e) (fun b hb e=>?_)
  have hpw:=h.pw
  rcases e with e | e | e
  ·omega
  ·exact e
  ·have:=hvr b e;omega
theorem out_push {base g p n:Nat} {wo wr ws:World} {f:Nat → Int} {vr u7:Value} {rs:List (Int × Int)} {L:List (List (Int × Int) × Bool)} (hin:InW wo wr n g p f vr rs) (hX:OutW base wo g u7 L) (hug:u7.ownBlock ≠ some g) (hw:Fr (fun b=>b = p) wr ws) :
  ∃ X:List (Value × List (Int × Int) × Bool),ws.ownsRow base 55 2 u7 L.length (X.flatMap inc) ∧ ∀ (hit:Bool) (o:Obj) (w7:World) (v7:Value),(ws.alloc o).grownBy w7 u7.ownBlock → w7.ownsRow base 55 2 v7 (L.length + 1) (X.flatMap inc ++ [vr,.bool hit]) → (v7.ownBlock = u7.ownBlock ∨ v7.ownBlock = some (ws.alloc o).heap.size) →
   v7.ownBlock ≠ some g ∧ OutW base w7 g v7 (L ++ [(rs,hit)]) ∧ OpW 0 n w7 g f ∧ Fr (fun b=>b = p ∨ u7.ownBlock = some b) wr w7:=by
 have hgp:=hin.gp
 have hpw:=hin.pw
 have hpl:p < wr.heap.size:=block_lt hin.c0
 have F0:Fr (fun b=>b = g) wo ws:=hin.fr.trans hw (fun _ _ e=>e) (fun b hb e=>by omega)
 obtain ⟨X,eX,hoX,hxX⟩:=hX.keep F0 hug
 have hXl:u7.ownBlock = none ∨ ∀ b,u7.ownBlock = some b → b < wo.heap.size:=by
  obtain ⟨_,_,ho,_⟩:=hX
  exact .inr fun b e=>ownsRow_lt ho b e
 have hu7:∀ b,u7.ownBlock = some b → b < wo.heap.size:=fun b e=>by
  rcases hXl with h | h
  ·rw [h] at e;cases e
  ·exact h b e
 refine ⟨X,hoX,fun hit o w7 v7 hgr hown hat=>?_⟩
 have F1:Fr (fun b=>u7.ownBlock = some b) ws w7:=Fr.grown ((Fr.refl _ ws).alloc o) hgr (fun b e _=>e)
 have F2:Fr (fun b=>b = p ∨ u7.ownBlock = some b) wr w7:=hw.trans F1 (fun _ _ e=>.inl e) (fun _ _ e=>.inr e)
 have hsz:(ws.alloc o).heap.size = ws.heap.size + 1:=by simp
 have hgs:g < ws.heap.size:=by have:=hin.op.b2;have:=hw.size;omega
 have hvg:v7.ownBlock ≠ some g:=fun e=>by
  rcases hat with h | h
  ·exact hug (h ▸ e)
  ·rw [h,hsz] at e;have:ws.heap.size + 1 = g:=by simpa using e
   omega
 have hsub:∀ b,b < ws.heap.size → v7.ownBlock = some b → u7.ownBlock = some b:=fun b hb e=>by
  rcases hat with h | h
  ·exact h ▸ e
  ·rw [h,hsz] at e;have:ws.heap.size + 1 = b:=by simpa using e
   omega
 refine ⟨hvg,⟨X ++ [(vr,rs,hit)],by rw [List.map_append,eX];rfl,?_,fun x hx=>?_⟩,⟨fun j hj=>(F2.cell (p:=⟨g,j,none⟩) hin.op.b2 (fun e=>?_)).trans (hin.op.c j hj),fun j=>(F2.frozen (p:=⟨g,j,none⟩) hin.op.b2 (fun e=>?_)).trans (hin.op.z j),hin.op.b1,Nat.lt_of_lt_of_le hin.op.b2 F2.size⟩,F2⟩
 ·rw [List.flatMap_append,List.length_append]
  exact hown
 ·rcases List.mem_append.1 hx with hx | hx
  ·have h1:RowIn ws (fun b=>b = g ∨ u7.ownBlock = some b ∨ v7.ownBlock = some b) x.1 x.2.1:=(hxX x hx).less (fun b hb e=>by
    rcases e with e | e | e
    ·exact .inl e
    ·exact .inr e
    ·exact .inr (hsub b hb e))
   exact (h1.keep F1 (fun b _ e=>.inr (.inl e))).less (fun b _ e=>by
    rcases e with e | e
    ·exact .inl e
    ·exact .inr (.inr e))
  ·obtain rfl:=List.mem_singleton.1 hx
   have hvr:∀ b,vr.ownBlock = some b → p + 1 ≤ b:=fun b e=>ownsRow_block hin.o b e
   have ho7:w7.ownsRow (p + 1) 79 2 vr rs.length (rs.flatMap prc):=own_fr2 hin.o F2 (fun b hb e=>by
    have h1:=hvr b hb
    rcases e with e | e
    ·omega
    ·have:=hu7 b e;omega)
   refine RowIn.of_own ho7 (fun b hb e=>?_)
   have h1:=hvr b hb
   have h2:=ownsRow_lt hin.o b hb
   rcases e with e | e
   ·omega
   ·have:=hu7 b (hsub b (Nat.lt_of_lt_of_le h2 hw.size) e);omega
 ·rcases e with e | e
  ·have:g = p:=e;omega
  ·exact hug e
 ·rcases e with e | e
  ·have:g = p:=e;omega
  ·exact hug e
theorem made_is (B:Nat) (bu g:Int) (a:Option Addr) (n c:Nat) (tk:Nat → Tk) (aa:Option Addr) (ca:Nat) (A:List AskT) (w:World) (hS:SetOk bu n tk) (hx:TksIn B w a n tk) (ha:AsksIn B w aa A) (hB:B ≤ w.heap.size) (hnc:n ≤ c)
  (hA:A.length ≤ 400) (hAb:∀ x ∈ A,0 ≤ x.1 ∧ x.1 < 65536 ∧ 0 ≤ x.2.1 ∧ x.2.1 < 256) (hg:1 ≤ g) (hg2:g ≤ 1049576) :
  Calls Tryz.prog 10 #[.agg #[.int .i64 bu,.slice a n c],.int .i64 g,.slice aa A.length ca] w fun e w'=>∃ ai ci,e = .returned (.slice ai A.length ci) ∧ InsIn w'.heap.size w' ai (madeT tk n bu g A A.length) ∧ Below w.heap.size w w':=by
 have hm:Tryz.prog.follows .mixedOrders = true:=by kernel_rfl
 have hb0:=bel_alloc (Below.refl w.heap.size w) (.cells #[.int .i64 bu,.slice a n c] 24)
 have hbox0:=cell_newb w #[.int .i64 bu,.slice a n c] 24 _ 0 _ rfl rfl
 have hbox1:=cell_newb w #[.int .i64 bu,.slice a n c] 24 _ 1 _ rfl rfl
 have hsz:=one_lt w (.cells #[.int .i64 bu,.slice a n c] 24)
 have HX:=Lib.hid hx
 have HA:=Lib.hid ha
 have HSS:=Lib.hid hS
 have HAB:=Lib.hid hAb
 have HB0:=Lib.hid hb0
 have hn16:=hS.n2
 have hn0:=hS.n1
 have hnI:(n:Int) ≤ 16:=by omega
 have hlI:(A.length:Int) ≤ 400:=by omega
 obtain ⟨i3,ki3,kz31,kz32,kz33⟩:=info_parts Tryz.info3
 obtain ⟨i79,ki79,kz791,kz792,kz793⟩:=info_parts Tryz.info79
 obtain ⟨i55,ki55,kz551,kz552,kz553⟩:=info_parts Tryz.info55
 clear hx ha hS hAb hb0
 go_enter Tryz.func10,Tryz.ntmps10
 go_wp2_with (first
  |(at_make;refine wpList_make_full _ rfl _ _ 28 rfl w.heap.size 3 i3 (.int .i64 0) 1 Tryz.underlying28 ki3 kz31 kz32 .i64 .i64 _ _ n rfl rfl rfl rfl (by rw [kz33];omega) (by unfold maxLen;omega) (by omega) ?_
    intro w3 hown3 hgr3
    have hq3:Below (w.alloc (.cells #[.int .i64 bu,.slice a n c] 24)).heap.size (w.alloc (.cells #[.int .i64 bu,.slice a n c] 24)) w3:=Below.grown (Below.refl _ _) hgr3 (Nat.le_refl _) (fun k e=>by cases e)
    have HQ3:=Lib.hid hq3
    have HO3:=Lib.hid hown3
    have x30:=Lib.hid (cell_bel hq3 hbox0)
    have x31:=Lib.hid (cell_bel hq3 hbox1)
    clear hq3 hown3 hgr3 hbox0 hbox1))
 obtain ⟨gb,hgb⟩:∃ g,g = (w.alloc (.cells #[.int .i64 bu,.slice a n c] 24)).heap.size:=⟨_,rfl⟩
 have hgw:w.heap.size < gb:=by rw [hgb];exact hsz
 have hg3:gb < w3.heap.size:=by
  have:=ownsRow_lt HO3.out gb (by rw [hgb];simp [Value.ownBlock])
  exact this
 have HW3:=Lib.hid (HB0.out.trans (HQ3.out.mono HB0.out.size))
 have hrz:(∀ j,j < n → w3.cell? ⟨gb,j,none⟩ = some (.int .i64 0)) ∧ ∀ o,w3.frozen? ⟨gb,o,none⟩ = false:=by
  have:=HO3.out
  rw [← hgb] at this
  exact row_zero this
 have HOP:Hid (OpW 0 n w3 gb (opnT tk n A 0)):=⟨fun i hi=>hrz.1 i hi,hrz.2,by omega,hg3⟩
 have hgs:(w.alloc (.cells #[.int .i64 bu,.slice a n c] 24)).heap.size = w.heap.size + 1:=by simp
 rw [hgs] at hgb
 have hgE:w.heap.size + 1 = gb:=hgb.symm
 clear HO3 HQ3 hrz hgs hgb
 try rw [hgE]
 go_loopw [10,7,9] (fun ix v7 v9 wx=>∃ k:Nat,k ≤ A.length ∧ ix = .int .i64 k ∧ v9 = .int .i64 (mfirst bu g (fun j=>(askAt A j).2.2) k) ∧ Hid (OpW 0 n wx gb (opnT tk n A k) ∧ wx.cell? ⟨w.heap.size,0,none⟩ = some (.int .i64 bu) ∧ wx.cell? ⟨w.heap.size,1,none⟩ = some (.slice a n c) ∧ Below w.heap.size w wx ∧ v7.ownBlock ≠ some gb ∧ OutW (w.heap.size + 1) wx gb v7 (madeT tk n bu g A k))) (fun ix _ _ _=>A.length - (intOf ix).toNat)
 case atStart=>exact ⟨0,Nat.zero_le _,rfl,rfl,HOP.out,x30.out,x31.out,HW3.out,by simp [Value.ownBlock],[],rfl,World.ownsRow_nil _ _ _ _,by simp⟩
 case round =>
  obtain ⟨k,hk,rfl,rfl,HK⟩:=hrel
  rename World=>wo
  by_cases hlt:k < A.length
  ·have hkI:(k:Int) < (A.length:Int):=by omega
   have hk0:(0:Int) ≤ (k:Int):=by omega
   have hdl:decide ((k:Int) < (A.length:Int)) = true:=decide_eq_true hkI
   obtain ⟨b,off,rfl,hbB,hcs⟩:=(HA.out.keep hB (Fr.of_below (S:=fun _=>False) HK.out.2.2.2.1) (fun _ _ t=>t)) (by omega)
   obtain ⟨x,hxk⟩:∃ x,x = A[k]:=⟨_,rfl⟩
   have hask:askAt A k = x:=by unfold askAt;rw [List.getD_eq_getElem?_getD,List.getElem?_eq_getElem hlt,hxk];rfl
   have hxb:=HAB.out A[k] (List.getElem_mem hlt)
   have hc3:=hcs k hlt
   rw [← hxk] at hxb hc3
   have HASK:=Lib.hid hask
   have HXK:=Lib.hid hxk
   clear hcs hask hxk
   have hbb:=bel_alloc (Below.refl wo.heap.size wo) (.cells #[.slice none 0 0,.bool false] 55)
   have hp0:=cell_newb wo #[.slice none 0 0,.bool false] 55 _ 0 _ rfl rfl
   have hp1:=cell_newb wo #[.slice none 0 0,.bool false] 55 _ 1 _ rfl rfl
   have hgk:=HK.out.1.b2
   have HIN:Hid (InW wo (wo.alloc (.cells #[.slice none 0 0,.bool false] 55)) n gb wo.heap.size (opnK (fun i=>(tk i).T) k (opnT tk n A k) (askB x) 0) (.slice none 0 0) (relK k (opnT tk n A k) (askB x) (fun i=>demB (tk i).C x) 0)) :=
    ⟨(HK.out.1.below hbb).congr (fun i _=>opnK_zero _ _ _ _ i),hp0,hp1,fun o=>frz_new wo _ _ _ o rfl,World.ownsRow_nil _ _ _ _,Fr.of_below hbb,rfl,hgk⟩
   have HBB:=Lib.hid hbb
   clear hbb hp0 hp1
   go_wp2_with fail
   generalize hw4:wo.alloc (.cells #[.slice none 0 0,.bool false] 55) = w4 at HIN HBB ⊢
   have hq0:=cell_bel HBB.out HK.out.2.1
   have hq1:=cell_bel HBB.out HK.out.2.2.1
   have hH0:Below w.heap.size w w4:=HK.out.2.2.2.1.trans (HBB.out.mono HK.out.2.2.2.1.size)
   have HI0:=Lib.hid (And.intro hq0 (And.intro hq1 hH0))
   clear hw4 hq0 hq1 hH0
   go_loopw [12] (fun jx wx=>∃ i:Nat,i ≤ n ∧ jx = .int .i64 i ∧ Hid (∃ vr,InW wo wx n gb wo.heap.size (opnK (fun i=>(tk i).T) k (opnT tk n A k) (askB x) i) vr (relK k (opnT tk n A k) (askB x) (fun i=>demB (tk i).C x) i)) ∧ Hid (wx.cell? ⟨w.heap.size,0,none⟩ = some (.int .i64 bu) ∧ wx.cell? ⟨w.heap.size,1,none⟩ = some (.slice a n c) ∧ Below w.heap.size w wx)) (fun jx _=>n - (intOf jx).toNat)
   case atStart=>exact ⟨0,Nat.zero_le _,rfl,⟨_,HIN.out⟩,HI0⟩
   case round =>
    obtain ⟨i,hi,rfl,HI,HJ⟩:=hrel
    have hj1:=HJ.out.2.1
    by_cases hil:i < n
    ·have hiI:(i:Int) < (n:Int):=by omega
     have hi0:(0:Int) ≤ (i:Int):=by omega
     have hdi:decide ((i:Int) < (n:Int)) = true:=decide_eq_true hiI
     obtain ⟨vr,hin⟩:=HI.out
     obtain ⟨tb,toff,rfl,htB,htc⟩:=(HX.out.keep (HJ.out.2.2.mono hB)) hn0
     have hq:=htc i hil
     have hth:=th_new wr #[.string ⟨#[]⟩,.int .i64 0,.int .i64 0,.int .i64 0,.int .i64 0,.int .i64 0,.int .i64 0,.int .i64 0,.int .i64 0,.int .i64 0,.int .i64 0] 41 wr.heap.size 11 rfl (by simp)
     have hrg:=Lib.hid (World.rangeAt_setCells_same _ _ _ (tkc (tk i)) hth)
     have hbt:=Lib.hid (below_setCells (Nat.le_refl _) (tkc (tk i)) 0 _ (bel_alloc (Below.refl wr.heap.size wr) (.cells #[.string ⟨#[]⟩,.int .i64 0,.int .i64 0,.int .i64 0,.int .i64 0,.int .i64 0,.int .i64 0,.int .i64 0,.int .i64 0,.int .i64 0,.int .i64 0] 41)))
     have hopc:=hin.op.c i hil
     rw [opnK_self] at hopc
     obtain ⟨fi,hfi⟩:∃ fi,opnT tk n A k i = fi:=⟨_,rfl⟩
     rw [hfi] at hopc
     obtain ⟨b',off',hae,_,hcs⟩:=(HA.out.keep hB (Fr.of_below (S:=fun _=>False) HJ.out.2.2) (fun _ _ t=>t)) (by omega)
     cases hae
     obtain ⟨hx0,hx1,hx2⟩:=hcs k hlt
     rw [← HXK.out] at hx0 hx1 hx2
     have hok:=HSS.out.ok i hil
     have HIN2:=Lib.hid hin
     clear hcs htc hin
     go_upto_region 12 with (first | (refine wpList_load_mid rfl 41 _ rfl tb (toff + i * 11) rfl (tkc (tk i)) _ hq Tryz.underlying41 rfl Tryz.size41 ?_) | (refine wpList_store_mid rfl 41 _ _ rfl wr.heap.size 0 (tkc (tk i)).toArray rfl rfl hth Tryz.size41 (by simp [Value.oneCell',tkc]) ?_;try simp only [List.toList_toArray];generalize hwt:((wr.alloc (.cells #[.string ⟨#[]⟩,.int .i64 0,.int .i64 0,.int .i64 0,.int .i64 0,.int .i64 0,.int .i64 0,.int .i64 0,.int .i64 0,.int .i64 0,.int .i64 0] 41)).setCells wr.heap.size 0 (tkc (tk i))) = wt at hbt hrg ⊢;clear hwt hq hth))
     have o1:=cell_bel hbt.out hopc
     have a0:=cell_bel hbt.out hx0
     have a1:=cell_bel hbt.out hx1
     have b0:=cell_bel hbt.out HIN2.out.c0
     have t1:=hrg.out 1 _ rfl
     have t3:=hrg.out 3 _ rfl
     simp only [Nat.zero_add] at t1 t3
     clear hopc hx0 hx1 hx2
     have HJt:Hid (wt.cell? ⟨w.heap.size,0,none⟩ = some (.int .i64 bu) ∧ wt.cell? ⟨w.heap.size,1,none⟩ = some (.slice (some ⟨tb,toff,none⟩) n c) ∧ Below w.heap.size w wt):=⟨cell_bel hbt.out HJ.out.1,cell_bel hbt.out HJ.out.2.1,HJ.out.2.2.trans (hbt.out.mono HJ.out.2.2.size)⟩
     have hq7:¬ vr.ownBlock = some wr.heap.size:=fun e=>by
      have:=ownsRow_lt HIN2.out.o _ e
      omega
     have hwr7:wo.heap.size < wr.heap.size:=block_lt HIN2.out.c0
     have HIt:=Lib.hid (HIN2.out.below hbt.out)
     obtain ⟨q,hq⟩:∃ q,(bits BinOp.and IntKind.u16 (x.1 / 2 ^ i) 1 == 1) = q:=⟨_,rfl⟩
     have hqa:askB x i = q:=hq
     clear hbt HI HJ HIN2
     by_cases hfo:fi ≤ (k:Int)
     ·have dfo:decide (fi ≤ (k:Int)) = true:=decide_eq_true hfo
      cases q
      ·go_wp2_with fail
       go_roundw
       case rel=>exact ⟨i + 1,by omega,by simp,⟨vr,HIt.out.no (fun e=>by rw [hqa] at e;cases e.2)⟩,HJt.out⟩
       case measure=>simp [intOf];omega
      ·have hcc:opnT tk n A k i ≤ (k:Int) ∧ askB x i = true:=⟨by omega,hqa⟩
       have hC1:=hok.c1
       have hC2:=hok.cd
       have hC3:=hok.dt
       have hC4:=hok.tm
       have hwT:IntKind.i64.wrap ((k:Int) + (tk i).T) = (k:Int) + (tk i).T:=by rw [IntWalk.i64_in _ (by omega)]
       obtain ⟨dm,hdm⟩:∃ dm,(x.2.1.tmod 3 == 1) = dm:=⟨_,rfl⟩
       have hdm':(x.2.1 % 3 == 1) = dm:=by rw [← Int.tmod_eq_emod_of_nonneg hxb.2.2.1];exact hdm
       cases dm
       ·have hD:demB (tk i).C x = (tk i).C:=by unfold demB;rw [hdm];simp
        have HIq:=Lib.hid (HIt.out)
        have hb:=HIq.out.c0
        have hpl:wo.heap.size < wt.heap.size:=block_lt hb
        have hvr:∀ b,vr.ownBlock = some b → wo.heap.size + 1 ≤ b:=fun b e=>ownsRow_block HIq.out.o b e
        have hrl:=relK_len (k:Int) (opnT tk n A k) (askB x) (fun i=>demB (tk i).C x) i
        go_upto_region 17 with (at_builtin;refine wpList_append_row rfl _ _ 53 rfl (wo.heap.size + 1) 79 i79 _ 2 16 Tryz.underlying53 ki79 kz791 kz792 kz793 rfl (by omega) vr (relK (k:Int) (opnT tk n A k) (askB x) (fun i=>demB (tk i).C x) i).length ((relK (k:Int) (opnT tk n A k) (askB x) (fun i=>demB (tk i).C x) i).flatMap prc) rfl (own_fr2 HIq.out.o (Fr.of_below (S:=fun _=>False) (bel_alloc (Below.refl _ _) _)) (fun _ _ t=>t)) (.slice (some ⟨wt.heap.size,0,none⟩) 1 1) 1 [.int .i64 (i:Nat),.int .i64 ((tk i).C)] rfl rfl (.inr ⟨⟨wt.heap.size,0,none⟩,1,rfl,fun j u hu=>by rw [add_none,Nat.zero_add];exact cell_newb _ #[.int .i64 (i:Nat),.int .i64 ((tk i).C)] _ _ j _ rfl hu⟩) (by simp [Value.oneCell']) (by unfold maxLen;omega) (by omega) (by simp;omega) ?_;intro v7 w7 own7 gr7 at7;obtain ⟨av,cv,hv7⟩:=ownsRow_form own7;subst hv7;have F7:Fr (fun b=>vr.ownBlock = some b) wt w7:=Fr.grown ((Fr.refl _ wt).alloc _) gr7 (fun b e _=>e);have p7:w7.cell? ⟨wo.heap.size,0,none⟩ = some vr:=(F7.cell (p:=⟨wo.heap.size,0,none⟩) hpl (fun e=>by have:=hvr wo.heap.size e;omega)).trans HIq.out.c0;have z7:∀ o,w7.frozen? ⟨wo.heap.size,o,none⟩ = false:=fun o=>(F7.frozen (p:=⟨wo.heap.size,o,none⟩) hpl (fun e=>by have:=hvr wo.heap.size e;omega)).trans (HIq.out.cz o))
        rw [← hD] at own7
        obtain ⟨_,HY,FY⟩:=HIq.out.yes hil hcc gr7 own7
        have HY:=Lib.hid HY
        have q0:(w7.setCell ⟨wo.heap.size,0,none⟩ (.slice av ((relK (k:Int) (opnT tk n A k) (askB x) (fun i=>demB (tk i).C x) i).length + 1) cv)).cell? ⟨wr.heap.size,1,none⟩ = some (.int .i64 (tk i).T):=by
         rw [World.cell?_setCell_other _ _ _ _ (addr_ne' (by omega)),F7.cell (p:=⟨wr.heap.size,1,none⟩) (block_lt t1) (fun e=>hq7 e)];exact t1
        have q1:∀ o,(w7.setCell ⟨wo.heap.size,0,none⟩ (.slice av ((relK (k:Int) (opnT tk n A k) (askB x) (fun i=>demB (tk i).C x) i).length + 1) cv)).frozen? ⟨gb,o,none⟩ = false:=fun o=>by
         rw [World.frozen?_setCell,F7.frozen (p:=⟨gb,o,none⟩) HIq.out.op.b2 (fun e=>by have:=hvr gb e;omega)];exact HIq.out.op.z o
        have q2:(w7.setCell ⟨wo.heap.size,0,none⟩ (.slice av ((relK (k:Int) (opnT tk n A k) (askB x) (fun i=>demB (tk i).C x) i).length + 1) cv)).cell? ⟨gb,i,none⟩ = some (.int .i64 fi):=by
         rw [World.cell?_setCell_other _ _ _ _ (addr_ne' (by omega)),F7.cell (p:=⟨gb,i,none⟩) HIq.out.op.b2 (fun e=>by have:=hvr gb e;omega),HIq.out.op.c i hil,opnK_self,hfi]
        have HJ9:Hid (((w7.setCell ⟨wo.heap.size,0,none⟩ (.slice av ((relK (k:Int) (opnT tk n A k) (askB x) (fun i=>demB (tk i).C x) i).length + 1) cv)).setCell ⟨gb,i,none⟩ (.int .i64 ((k:Int) + (tk i).T))).cell? ⟨w.heap.size,0,none⟩ = some (.int .i64 bu) ∧ ((w7.setCell ⟨wo.heap.size,0,none⟩ (.slice av ((relK (k:Int) (opnT tk n A k) (askB x) (fun i=>demB (tk i).C x) i).length + 1) cv)).setCell ⟨gb,i,none⟩ (.int .i64 ((k:Int) + (tk i).T))).cell? ⟨w.heap.size,1,none⟩ = some (.slice (some ⟨tb,toff,none⟩) n c) ∧ Below w.heap.size w ((w7.setCell ⟨wo.heap.size,0,none⟩ (.slice av ((relK (k:Int) (opnT tk n A k) (askB x) (fun i=>demB (tk i).C x) i).length + 1) cv)).setCell ⟨gb,i,none⟩ (.int .i64 ((k:Int) + (tk i).T)))):=by
         refine ⟨(FY.cell (p:=⟨w.heap.size,0,none⟩) (block_lt HJt.out.1) (fun e=>?_)).trans HJt.out.1,(FY.cell (p:=⟨w.heap.size,1,none⟩) (block_lt HJt.out.2.1) (fun e=>?_)).trans HJt.out.2.1,HJt.out.2.2.trans (FY.below (fun b _ e=>?_) HJt.out.2.2.size)⟩
         ·rcases e with e | e | e
          ·have:w.heap.size = wo.heap.size:=e;omega
          ·have:w.heap.size = gb:=e;omega
          ·have:=hvr w.heap.size e;omega
         ·rcases e with e | e | e
          ·have:w.heap.size = wo.heap.size:=e;omega
          ·have:w.heap.size = gb:=e;omega
          ·have:=hvr w.heap.size e;omega
         ·rcases e with e | e | e
          ·omega
          ·omega
          ·have:=hvr b e;omega
        clear own7 gr7 at7 F7 FY hb p7 z7
        generalize w7.setCell ⟨wo.heap.size,0,none⟩ (.slice av ((relK (k:Int) (opnT tk n A k) (askB x) (fun i=>demB (tk i).C x) i).length + 1) cv) = w8 at *
        go_wp2_with fail
        go_roundw
        case rel=>exact ⟨i + 1,by omega,by simp,⟨_,HY.out⟩,HJ9.out⟩
        case measure=>simp [intOf];omega
       ·have hD:demB (tk i).C x = 1 + x.2.1.tmod (tk i).C:=by unfold demB;rw [hdm];simp
        have hm0:=Int.tmod_nonneg (tk i).C hxb.2.2.1
        have hm1:=Int.tmod_lt_of_pos x.2.1 (show 0 < (tk i).C by omega)
        have hC0:((tk i).C == 0) = false:=by rw [beq_eq_false_iff_ne];omega
        have hC0':¬ (tk i).C = 0:=by omega
        obtain ⟨r,hr⟩:∃ r,x.2.1.tmod (tk i).C = r:=⟨_,rfl⟩
        rw [hr] at hD hm0 hm1
        have hr':x.2.1 % (tk i).C = r:=by rw [← Int.tmod_eq_emod_of_nonneg hxb.2.2.1];exact hr
        have hw0:IntKind.i64.wrap x.2.1 = x.2.1:=by rw [IntWalk.i64_in _ (by omega)]
        have hw1:IntKind.i64.wrap r = r:=by rw [IntWalk.i64_in _ (by omega)]
        have hw2:IntKind.i64.wrap (1 + r) = 1 + r:=by rw [IntWalk.i64_in _ (by omega)]
        have qa:=fun d os=>cell_regrown a1 d os
        have qt:=fun d os=>cell_regrown t3 d os
        go_wp2_with fail
        refine wp_region_quiet_below hm (by kernel_rfl) ?_
        repeat (quiet_step (fail))
        refine wpQuiet_nil ?_
        intro _ hw'
        obtain ⟨⟨dq,osq⟩,hw''⟩:=hw'
        subst hw''
        have hbq:=below_regrown wt dq osq
        have HJq:Hid ((Sort.grow (redrawn wt dq) osq).cell? ⟨w.heap.size,0,none⟩ = some (.int .i64 bu) ∧ (Sort.grow (redrawn wt dq) osq).cell? ⟨w.heap.size,1,none⟩ = some (.slice (some ⟨tb,toff,none⟩) n c) ∧ Below w.heap.size w (Sort.grow (redrawn wt dq) osq)):=⟨cell_bel hbq HJt.out.1,cell_bel hbq HJt.out.2.1,HJt.out.2.2.trans (hbq.mono HJt.out.2.2.size)⟩
        have HIr:=Lib.hid (HIt.out.below hbq)
        have t1q:=cell_bel hbq t1
        clear qa qt hbq o1 a0 a1 b0 t1 t3 HJt HIt
        generalize Sort.grow (redrawn wt dq) osq = wq at *
        have HIq:=Lib.hid (HIr.out)
        have hb:=HIq.out.c0
        have hpl:wo.heap.size < wq.heap.size:=block_lt hb
        have hvr:∀ b,vr.ownBlock = some b → wo.heap.size + 1 ≤ b:=fun b e=>ownsRow_block HIq.out.o b e
        have hrl:=relK_len (k:Int) (opnT tk n A k) (askB x) (fun i=>demB (tk i).C x) i
        go_upto_region 17 with (at_builtin;refine wpList_append_row rfl _ _ 53 rfl (wo.heap.size + 1) 79 i79 _ 2 16 Tryz.underlying53 ki79 kz791 kz792 kz793 rfl (by omega) vr (relK (k:Int) (opnT tk n A k) (askB x) (fun i=>demB (tk i).C x) i).length ((relK (k:Int) (opnT tk n A k) (askB x) (fun i=>demB (tk i).C x) i).flatMap prc) rfl (own_fr2 HIq.out.o (Fr.of_below (S:=fun _=>False) (bel_alloc (Below.refl _ _) _)) (fun _ _ t=>t)) (.slice (some ⟨wq.heap.size,0,none⟩) 1 1) 1 [.int .i64 (i:Nat),.int .i64 (1 + r)] rfl rfl (.inr ⟨⟨wq.heap.size,0,none⟩,1,rfl,fun j u hu=>by rw [add_none,Nat.zero_add];exact cell_newb _ #[.int .i64 (i:Nat),.int .i64 (1 + r)] _ _ j _ rfl hu⟩) (by simp [Value.oneCell']) (by unfold maxLen;omega) (by omega) (by simp;omega) ?_;intro v7 w7 own7 gr7 at7;obtain ⟨av,cv,hv7⟩:=ownsRow_form own7;subst hv7;have F7:Fr (fun b=>vr.ownBlock = some b) wq w7:=Fr.grown ((Fr.refl _ wq).alloc _) gr7 (fun b e _=>e);have p7:w7.cell? ⟨wo.heap.size,0,none⟩ = some vr:=(F7.cell (p:=⟨wo.heap.size,0,none⟩) hpl (fun e=>by have:=hvr wo.heap.size e;omega)).trans HIq.out.c0;have z7:∀ o,w7.frozen? ⟨wo.heap.size,o,none⟩ = false:=fun o=>(F7.frozen (p:=⟨wo.heap.size,o,none⟩) hpl (fun e=>by have:=hvr wo.heap.size e;omega)).trans (HIq.out.cz o))
        rw [← hD] at own7
        obtain ⟨_,HY,FY⟩:=HIq.out.yes hil hcc gr7 own7
        have HY:=Lib.hid HY
        have q0:(w7.setCell ⟨wo.heap.size,0,none⟩ (.slice av ((relK (k:Int) (opnT tk n A k) (askB x) (fun i=>demB (tk i).C x) i).length + 1) cv)).cell? ⟨wr.heap.size,1,none⟩ = some (.int .i64 (tk i).T):=by
         rw [World.cell?_setCell_other _ _ _ _ (addr_ne' (by omega)),F7.cell (p:=⟨wr.heap.size,1,none⟩) (block_lt t1q) (fun e=>hq7 e)];exact t1q
        have q1:∀ o,(w7.setCell ⟨wo.heap.size,0,none⟩ (.slice av ((relK (k:Int) (opnT tk n A k) (askB x) (fun i=>demB (tk i).C x) i).length + 1) cv)).frozen? ⟨gb,o,none⟩ = false:=fun o=>by
         rw [World.frozen?_setCell,F7.frozen (p:=⟨gb,o,none⟩) HIq.out.op.b2 (fun e=>by have:=hvr gb e;omega)];exact HIq.out.op.z o
        have q2:(w7.setCell ⟨wo.heap.size,0,none⟩ (.slice av ((relK (k:Int) (opnT tk n A k) (askB x) (fun i=>demB (tk i).C x) i).length + 1) cv)).cell? ⟨gb,i,none⟩ = some (.int .i64 fi):=by
         rw [World.cell?_setCell_other _ _ _ _ (addr_ne' (by omega)),F7.cell (p:=⟨gb,i,none⟩) HIq.out.op.b2 (fun e=>by have:=hvr gb e;omega),HIq.out.op.c i hil,opnK_self,hfi]
        have HJ9:Hid (((w7.setCell ⟨wo.heap.size,0,none⟩ (.slice av ((relK (k:Int) (opnT tk n A k) (askB x) (fun i=>demB (tk i).C x) i).length + 1) cv)).setCell ⟨gb,i,none⟩ (.int .i64 ((k:Int) + (tk i).T))).cell? ⟨w.heap.size,0,none⟩ = some (.int .i64 bu) ∧ ((w7.setCell ⟨wo.heap.size,0,none⟩ (.slice av ((relK (k:Int) (opnT tk n A k) (askB x) (fun i=>demB (tk i).C x) i).length + 1) cv)).setCell ⟨gb,i,none⟩ (.int .i64 ((k:Int) + (tk i).T))).cell? ⟨w.heap.size,1,none⟩ = some (.slice (some ⟨tb,toff,none⟩) n c) ∧ Below w.heap.size w ((w7.setCell ⟨wo.heap.size,0,none⟩ (.slice av ((relK (k:Int) (opnT tk n A k) (askB x) (fun i=>demB (tk i).C x) i).length + 1) cv)).setCell ⟨gb,i,none⟩ (.int .i64 ((k:Int) + (tk i).T)))):=by
         refine ⟨(FY.cell (p:=⟨w.heap.size,0,none⟩) (block_lt HJq.out.1) (fun e=>?_)).trans HJq.out.1,(FY.cell (p:=⟨w.heap.size,1,none⟩) (block_lt HJq.out.2.1) (fun e=>?_)).trans HJq.out.2.1,HJq.out.2.2.trans (FY.below (fun b _ e=>?_) HJq.out.2.2.size)⟩
         ·rcases e with e | e | e
          ·have:w.heap.size = wo.heap.size:=e;omega
          ·have:w.heap.size = gb:=e;omega
          ·have:=hvr w.heap.size e;omega
         ·rcases e with e | e | e
          ·have:w.heap.size = wo.heap.size:=e;omega
          ·have:w.heap.size = gb:=e;omega
          ·have:=hvr w.heap.size e;omega
         ·rcases e with e | e | e
          ·omega
          ·omega
          ·have:=hvr b e;omega
        clear own7 gr7 at7 F7 FY hb p7 z7
        generalize w7.setCell ⟨wo.heap.size,0,none⟩ (.slice av ((relK (k:Int) (opnT tk n A k) (askB x) (fun i=>demB (tk i).C x) i).length + 1) cv) = w8 at *
        go_wp2_with fail
        go_roundw
        case rel=>exact ⟨i + 1,by omega,by simp,⟨_,HY.out⟩,HJ9.out⟩
        case measure=>simp [intOf];omega
     ·have dfo:decide (fi ≤ (k:Int)) = false:=decide_eq_false hfo
      go_wp2_with fail
      go_roundw
      case rel=>exact ⟨i + 1,by omega,by simp,⟨vr,HIt.out.no (fun e=>hfo (by rw [hfi] at e;exact e.1))⟩,HJt.out⟩
      case measure=>simp [intOf];omega
    ·have hin':n = i:=by omega
     subst hin'
     have hdi:decide ((n:Int) < (n:Int)) = false:=decide_eq_false (by omega)
     obtain ⟨vr,hin⟩:=HI.out
     obtain ⟨vra,vrc,hvrf⟩:=ownsRow_form hin.o
     subst hvrf
     have HIN2:=Lib.hid hin
     obtain ⟨b',off',hae,_,hcs⟩:=(HA.out.keep hB (Fr.of_below (S:=fun _=>False) HJ.out.2.2) (fun _ _ t=>t)) (by omega)
     cases hae
     obtain ⟨_,_,hx2⟩:=hcs k hlt
     rw [← HXK.out] at hx2
     have hj0:=HJ.out.1
     have hc0:=hin.c0
     have hc1:=hin.c1
     have hcz:=hin.cz
     have hwr7:wo.heap.size < wr.heap.size:=block_lt hin.c0
     have hml:=mfirst_lt bu g (fun j=>(askAt A j).2.2) k
     generalize hfs:mfirst bu g (fun j=>(askAt A j).2.2) k = fs at *
     have hwf:IntKind.i64.wrap ((k:Int) - fs) = (k:Int) - fs:=by rw [IntWalk.i64_in _ (by omega)]
     obtain ⟨st,hst⟩:∃ st,x.2.2 = st:=⟨_,rfl⟩
     rw [hst] at hx2
     clear hcs HI hin
     cases st
     ·skip
      go_upto_region 24 with fail
      have Fs:Fr (fun b=>b = wo.heap.size) wr wr:=Fr.refl _ wr
      have s0:=HIN2.out.c0
      have s1:=HIN2.out.c1
      obtain ⟨ws,hws⟩:∃ ws,ws = wr:=⟨_,rfl⟩
      rw [← hws] at s0 s1 ⊢
      have Fs:Fr (fun b=>b = wo.heap.size) wr ws:=hws ▸ Fs
      clear hws
      obtain ⟨X,hoX,hpush⟩:=out_push HIN2.out HK.out.2.2.2.2.2 HK.out.2.2.2.2.1 Fs
      have HPU:=Lib.hid hpush
      have hss:=Fs.size
      clear hpush
      rw [madeT_len] at hoX
      go_wp2_with (at_builtin;refine wpList_append_row rfl _ _ 34 rfl (w.heap.size + 1) 55 i55 _ 2 32 Tryz.underlying34 ki55 kz551 kz552 kz553 rfl (by omega) u7 k (X.flatMap inc) rfl (own_fr2 hoX (Fr.of_below (S:=fun _=>False) (bel_alloc (Below.refl _ _) _)) (fun _ _ t=>t)) (.slice (some ⟨ws.heap.size,0,none⟩) 1 1) 1 [(.slice vra (relK (k:Int) (opnT tk n A k) (askB x) (fun i=>demB (tk i).C x) n).length vrc),.bool false] rfl rfl (.inr ⟨⟨ws.heap.size,0,none⟩,1,rfl,fun j u hu=>by rw [add_none,Nat.zero_add];exact cell_newb _ #[(.slice vra (relK (k:Int) (opnT tk n A k) (askB x) (fun i=>demB (tk i).C x) n).length vrc),.bool false] _ _ j _ rfl hu⟩) (by simp [Value.oneCell']) (by unfold maxLen;omega) (by omega) (by simp;omega) ?_;intro v7 w7 own7 gr7 at7)
      obtain ⟨n1,n2,n3,n4⟩:=HPU.out false _ w7 v7 gr7 (by rw [madeT_len];exact own7) at7
      have hu7:∀ b,u7.ownBlock = some b → w.heap.size + 1 ≤ b:=fun b e=>ownsRow_block hoX b e
      have HN:Hid (OpW 0 n w7 gb (opnT tk n A (k + 1)) ∧ w7.cell? ⟨w.heap.size,0,none⟩ = some (.int .i64 bu) ∧ w7.cell? ⟨w.heap.size,1,none⟩ = some (.slice a n c) ∧ Below w.heap.size w w7 ∧ v7.ownBlock ≠ some gb ∧ OutW (w.heap.size + 1) w7 gb v7 (madeT tk n bu g A (k + 1))):=by
       refine ⟨?_,(n4.cell (p:=⟨w.heap.size,0,none⟩) (block_lt HJ.out.1) (fun e=>?_)).trans HJ.out.1,(n4.cell (p:=⟨w.heap.size,1,none⟩) (block_lt HJ.out.2.1) (fun e=>?_)).trans HJ.out.2.1,HJ.out.2.2.trans (n4.below (fun b _ e=>?_) HJ.out.2.2.size),n1,?_⟩
       ·show OpW 0 n w7 gb (opnK (fun i=>(tk i).T) k (opnT tk n A k) (askB (askAt A k)) n)
        rw [HASK.out];exact n3
       ·rcases e with e | e
        ·have:w.heap.size = wo.heap.size:=e;omega
        ·have:=hu7 w.heap.size e;omega
       ·rcases e with e | e
        ·have:w.heap.size = wo.heap.size:=e;omega
        ·have:=hu7 w.heap.size e;omega
       ·rcases e with e | e
        ·omega
        ·have:=hu7 b e;omega
       ·rw [madeT_succ,show rowT tk n A k = relK k (opnT tk n A k) (askB x) (fun i=>demB (tk i).C x) n by unfold rowT;rw [HASK.out],show mhit bu g (fun j=>(askAt A j).2.2) k = false by unfold mhit mstep;simp only [HASK.out,hst,hfs];rfl]
        exact n2
      have HF:Hid (mfirst bu g (fun j=>(askAt A j).2.2) (k + 1) = fs):=by show (mstep _ _ _ _ _).1 = _;unfold mstep;simp only [HASK.out,hst,hfs];rfl
      clear own7 gr7 at7 n1 n2 n3 n4 hoX s0 s1 Fs hu7
      go_wp2_with fail
      go_roundw
      case rel=>exact ⟨k + 1,by omega,by simp,by rw [HF.out],HN.out⟩
      case measure=>simp [intOf];omega
     ·by_cases f0:0 ≤ fs
      ·have e0:decide (0 ≤ fs) = true:=decide_eq_true f0
       have e0':decide (fs < 0) = false:=decide_eq_false (by omega)
       by_cases f1:(k:Int) - fs < bu
       ·have e1:decide ((k:Int) - fs < bu) = true:=decide_eq_true f1
        go_upto_region 24 with fail
        have Fs:Fr (fun b=>b = wo.heap.size) wr (wr.setCell ⟨wo.heap.size,1,none⟩ (.bool true)):=(Fr.refl (fun b=>b = wo.heap.size) wr).setCell (p:=⟨wo.heap.size,1,none⟩) rfl _
        have s0:(wr.setCell ⟨wo.heap.size,1,none⟩ (.bool true)).cell? ⟨wo.heap.size,0,none⟩ = some (.slice vra (relK (k:Int) (opnT tk n A k) (askB x) (fun i=>demB (tk i).C x) n).length vrc):=by rw [World.cell?_setCell_other _ _ _ _ (addr_ne (by omega))];exact HIN2.out.c0
        have s1:(wr.setCell ⟨wo.heap.size,1,none⟩ (.bool true)).cell? ⟨wo.heap.size,1,none⟩ = some (.bool true):=World.cell?_setCell_same _ _ _ HIN2.out.c1
        generalize wr.setCell ⟨wo.heap.size,1,none⟩ (.bool true) = ws at *
        obtain ⟨X,hoX,hpush⟩:=out_push HIN2.out HK.out.2.2.2.2.2 HK.out.2.2.2.2.1 Fs
        have HPU:=Lib.hid hpush
        have hss:=Fs.size
        clear hpush
        rw [madeT_len] at hoX
        go_wp2_with (at_builtin;refine wpList_append_row rfl _ _ 34 rfl (w.heap.size + 1) 55 i55 _ 2 32 Tryz.underlying34 ki55 kz551 kz552 kz553 rfl (by omega) u7 k (X.flatMap inc) rfl (own_fr2 hoX (Fr.of_below (S:=fun _=>False) (bel_alloc (Below.refl _ _) _)) (fun _ _ t=>t)) (.slice (some ⟨ws.heap.size,0,none⟩) 1 1) 1 [(.slice vra (relK (k:Int) (opnT tk n A k) (askB x) (fun i=>demB (tk i).C x) n).length vrc),.bool true] rfl rfl (.inr ⟨⟨ws.heap.size,0,none⟩,1,rfl,fun j u hu=>by rw [add_none,Nat.zero_add];exact cell_newb _ #[(.slice vra (relK (k:Int) (opnT tk n A k) (askB x) (fun i=>demB (tk i).C x) n).length vrc),.bool true] _ _ j _ rfl hu⟩) (by simp [Value.oneCell']) (by unfold maxLen;omega) (by omega) (by simp;omega) ?_;intro v7 w7 own7 gr7 at7)
        obtain ⟨n1,n2,n3,n4⟩:=HPU.out true _ w7 v7 gr7 (by rw [madeT_len];exact own7) at7
        have hu7:∀ b,u7.ownBlock = some b → w.heap.size + 1 ≤ b:=fun b e=>ownsRow_block hoX b e
        have HN:Hid (OpW 0 n w7 gb (opnT tk n A (k + 1)) ∧ w7.cell? ⟨w.heap.size,0,none⟩ = some (.int .i64 bu) ∧ w7.cell? ⟨w.heap.size,1,none⟩ = some (.slice a n c) ∧ Below w.heap.size w w7 ∧ v7.ownBlock ≠ some gb ∧ OutW (w.heap.size + 1) w7 gb v7 (madeT tk n bu g A (k + 1))):=by
         refine ⟨?_,(n4.cell (p:=⟨w.heap.size,0,none⟩) (block_lt HJ.out.1) (fun e=>?_)).trans HJ.out.1,(n4.cell (p:=⟨w.heap.size,1,none⟩) (block_lt HJ.out.2.1) (fun e=>?_)).trans HJ.out.2.1,HJ.out.2.2.trans (n4.below (fun b _ e=>?_) HJ.out.2.2.size),n1,?_⟩
         ·show OpW 0 n w7 gb (opnK (fun i=>(tk i).T) k (opnT tk n A k) (askB (askAt A k)) n)
          rw [HASK.out];exact n3
         ·rcases e with e | e
          ·have:w.heap.size = wo.heap.size:=e;omega
          ·have:=hu7 w.heap.size e;omega
         ·rcases e with e | e
          ·have:w.heap.size = wo.heap.size:=e;omega
          ·have:=hu7 w.heap.size e;omega
         ·rcases e with e | e
          ·omega
          ·have:=hu7 b e;omega
         ·rw [madeT_succ,show rowT tk n A k = relK k (opnT tk n A k) (askB x) (fun i=>demB (tk i).C x) n by unfold rowT;rw [HASK.out],show mhit bu g (fun j=>(askAt A j).2.2) k = true by unfold mhit mstep;simp only [HASK.out,hst,hfs];simp [f0,f1]]
          exact n2
        have HF:Hid (mfirst bu g (fun j=>(askAt A j).2.2) (k + 1) = fs):=by show (mstep _ _ _ _ _).1 = _;unfold mstep;simp only [HASK.out,hst,hfs];simp [f0,f1]
        clear own7 gr7 at7 n1 n2 n3 n4 hoX s0 s1 Fs hu7
        go_wp2_with fail
        go_roundw
        case rel=>exact ⟨k + 1,by omega,by simp,by rw [HF.out],HN.out⟩
        case measure=>simp [intOf];omega
       ·have e1:decide ((k:Int) - fs < bu) = false:=decide_eq_false f1
        by_cases f2:g ≤ (k:Int) - fs
        ·have e2:decide (g ≤ (k:Int) - fs) = true:=decide_eq_true f2
         go_upto_region 24 with fail
         have Fs:Fr (fun b=>b = wo.heap.size) wr (wr.setCell ⟨wo.heap.size,1,none⟩ (.bool true)):=(Fr.refl (fun b=>b = wo.heap.size) wr).setCell (p:=⟨wo.heap.size,1,none⟩) rfl _
         have s0:(wr.setCell ⟨wo.heap.size,1,none⟩ (.bool true)).cell? ⟨wo.heap.size,0,none⟩ = some (.slice vra (relK (k:Int) (opnT tk n A k) (askB x) (fun i=>demB (tk i).C x) n).length vrc):=by rw [World.cell?_setCell_other _ _ _ _ (addr_ne (by omega))];exact HIN2.out.c0
         have s1:(wr.setCell ⟨wo.heap.size,1,none⟩ (.bool true)).cell? ⟨wo.heap.size,1,none⟩ = some (.bool true):=World.cell?_setCell_same _ _ _ HIN2.out.c1
         generalize wr.setCell ⟨wo.heap.size,1,none⟩ (.bool true) = ws at *
         obtain ⟨X,hoX,hpush⟩:=out_push HIN2.out HK.out.2.2.2.2.2 HK.out.2.2.2.2.1 Fs
         have HPU:=Lib.hid hpush
         have hss:=Fs.size
         clear hpush
         rw [madeT_len] at hoX
         go_wp2_with (at_builtin;refine wpList_append_row rfl _ _ 34 rfl (w.heap.size + 1) 55 i55 _ 2 32 Tryz.underlying34 ki55 kz551 kz552 kz553 rfl (by omega) u7 k (X.flatMap inc) rfl (own_fr2 hoX (Fr.of_below (S:=fun _=>False) (bel_alloc (Below.refl _ _) _)) (fun _ _ t=>t)) (.slice (some ⟨ws.heap.size,0,none⟩) 1 1) 1 [(.slice vra (relK (k:Int) (opnT tk n A k) (askB x) (fun i=>demB (tk i).C x) n).length vrc),.bool true] rfl rfl (.inr ⟨⟨ws.heap.size,0,none⟩,1,rfl,fun j u hu=>by rw [add_none,Nat.zero_add];exact cell_newb _ #[(.slice vra (relK (k:Int) (opnT tk n A k) (askB x) (fun i=>demB (tk i).C x) n).length vrc),.bool true] _ _ j _ rfl hu⟩) (by simp [Value.oneCell']) (by unfold maxLen;omega) (by omega) (by simp;omega) ?_;intro v7 w7 own7 gr7 at7)
         obtain ⟨n1,n2,n3,n4⟩:=HPU.out true _ w7 v7 gr7 (by rw [madeT_len];exact own7) at7
         have hu7:∀ b,u7.ownBlock = some b → w.heap.size + 1 ≤ b:=fun b e=>ownsRow_block hoX b e
         have HN:Hid (OpW 0 n w7 gb (opnT tk n A (k + 1)) ∧ w7.cell? ⟨w.heap.size,0,none⟩ = some (.int .i64 bu) ∧ w7.cell? ⟨w.heap.size,1,none⟩ = some (.slice a n c) ∧ Below w.heap.size w w7 ∧ v7.ownBlock ≠ some gb ∧ OutW (w.heap.size + 1) w7 gb v7 (madeT tk n bu g A (k + 1))):=by
          refine ⟨?_,(n4.cell (p:=⟨w.heap.size,0,none⟩) (block_lt HJ.out.1) (fun e=>?_)).trans HJ.out.1,(n4.cell (p:=⟨w.heap.size,1,none⟩) (block_lt HJ.out.2.1) (fun e=>?_)).trans HJ.out.2.1,HJ.out.2.2.trans (n4.below (fun b _ e=>?_) HJ.out.2.2.size),n1,?_⟩
          ·show OpW 0 n w7 gb (opnK (fun i=>(tk i).T) k (opnT tk n A k) (askB (askAt A k)) n)
           rw [HASK.out];exact n3
          ·rcases e with e | e
           ·have:w.heap.size = wo.heap.size:=e;omega
           ·have:=hu7 w.heap.size e;omega
          ·rcases e with e | e
           ·have:w.heap.size = wo.heap.size:=e;omega
           ·have:=hu7 w.heap.size e;omega
          ·rcases e with e | e
           ·omega
           ·have:=hu7 b e;omega
          ·rw [madeT_succ,show rowT tk n A k = relK k (opnT tk n A k) (askB x) (fun i=>demB (tk i).C x) n by unfold rowT;rw [HASK.out],show mhit bu g (fun j=>(askAt A j).2.2) k = true by unfold mhit mstep;simp only [HASK.out,hst,hfs];simp [f0,f1,f2]]
           exact n2
         have HF:Hid (mfirst bu g (fun j=>(askAt A j).2.2) (k + 1) = (k:Int)):=by show (mstep _ _ _ _ _).1 = _;unfold mstep;simp only [HASK.out,hst,hfs];simp [f0,f1,f2]
         clear own7 gr7 at7 n1 n2 n3 n4 hoX s0 s1 Fs hu7
         go_wp2_with fail
         go_roundw
         case rel=>exact ⟨k + 1,by omega,by simp,by rw [HF.out],HN.out⟩
         case measure=>simp [intOf];omega
        ·have e2:decide (g ≤ (k:Int) - fs) = false:=decide_eq_false f2
         have f3:¬ fs < 0:=by omega
         go_upto_region 24 with fail
         have Fs:Fr (fun b=>b = wo.heap.size) wr wr:=Fr.refl _ wr
         have s0:=HIN2.out.c0
         have s1:=HIN2.out.c1
         obtain ⟨ws,hws⟩:∃ ws,ws = wr:=⟨_,rfl⟩
         rw [← hws] at s0 s1 ⊢
         have Fs:Fr (fun b=>b = wo.heap.size) wr ws:=hws ▸ Fs
         clear hws
         obtain ⟨X,hoX,hpush⟩:=out_push HIN2.out HK.out.2.2.2.2.2 HK.out.2.2.2.2.1 Fs
         have HPU:=Lib.hid hpush
         have hss:=Fs.size
         clear hpush
         rw [madeT_len] at hoX
         go_wp2_with (at_builtin;refine wpList_append_row rfl _ _ 34 rfl (w.heap.size + 1) 55 i55 _ 2 32 Tryz.underlying34 ki55 kz551 kz552 kz553 rfl (by omega) u7 k (X.flatMap inc) rfl (own_fr2 hoX (Fr.of_below (S:=fun _=>False) (bel_alloc (Below.refl _ _) _)) (fun _ _ t=>t)) (.slice (some ⟨ws.heap.size,0,none⟩) 1 1) 1 [(.slice vra (relK (k:Int) (opnT tk n A k) (askB x) (fun i=>demB (tk i).C x) n).length vrc),.bool false] rfl rfl (.inr ⟨⟨ws.heap.size,0,none⟩,1,rfl,fun j u hu=>by rw [add_none,Nat.zero_add];exact cell_newb _ #[(.slice vra (relK (k:Int) (opnT tk n A k) (askB x) (fun i=>demB (tk i).C x) n).length vrc),.bool false] _ _ j _ rfl hu⟩) (by simp [Value.oneCell']) (by unfold maxLen;omega) (by omega) (by simp;omega) ?_;intro v7 w7 own7 gr7 at7)
         obtain ⟨n1,n2,n3,n4⟩:=HPU.out false _ w7 v7 gr7 (by rw [madeT_len];exact own7) at7
         have hu7:∀ b,u7.ownBlock = some b → w.heap.size + 1 ≤ b:=fun b e=>ownsRow_block hoX b e
         have HN:Hid (OpW 0 n w7 gb (opnT tk n A (k + 1)) ∧ w7.cell? ⟨w.heap.size,0,none⟩ = some (.int .i64 bu) ∧ w7.cell? ⟨w.heap.size,1,none⟩ = some (.slice a n c) ∧ Below w.heap.size w w7 ∧ v7.ownBlock ≠ some gb ∧ OutW (w.heap.size + 1) w7 gb v7 (madeT tk n bu g A (k + 1))):=by
          refine ⟨?_,(n4.cell (p:=⟨w.heap.size,0,none⟩) (block_lt HJ.out.1) (fun e=>?_)).trans HJ.out.1,(n4.cell (p:=⟨w.heap.size,1,none⟩) (block_lt HJ.out.2.1) (fun e=>?_)).trans HJ.out.2.1,HJ.out.2.2.trans (n4.below (fun b _ e=>?_) HJ.out.2.2.size),n1,?_⟩
          ·show OpW 0 n w7 gb (opnK (fun i=>(tk i).T) k (opnT tk n A k) (askB (askAt A k)) n)
           rw [HASK.out];exact n3
          ·rcases e with e | e
           ·have:w.heap.size = wo.heap.size:=e;omega
           ·have:=hu7 w.heap.size e;omega
          ·rcases e with e | e
           ·have:w.heap.size = wo.heap.size:=e;omega
           ·have:=hu7 w.heap.size e;omega
          ·rcases e with e | e
           ·omega
           ·have:=hu7 b e;omega
          ·rw [madeT_succ,show rowT tk n A k = relK k (opnT tk n A k) (askB x) (fun i=>demB (tk i).C x) n by unfold rowT;rw [HASK.out],show mhit bu g (fun j=>(askAt A j).2.2) k = false by unfold mhit mstep;simp only [HASK.out,hst,hfs];simp [f1,f2,f3]]
           exact n2
         have HF:Hid (mfirst bu g (fun j=>(askAt A j).2.2) (k + 1) = fs):=by show (mstep _ _ _ _ _).1 = _;unfold mstep;simp only [HASK.out,hst,hfs];simp [f1,f2,f3]
         clear own7 gr7 at7 n1 n2 n3 n4 hoX s0 s1 Fs hu7
         go_wp2_with fail
         go_roundw
         case rel=>exact ⟨k + 1,by omega,by simp,by rw [HF.out],HN.out⟩
         case measure=>simp [intOf];omega
      ·have e0:decide (0 ≤ fs) = false:=decide_eq_false f0
       have f3:fs < 0:=by omega
       have e0':decide (fs < 0) = true:=decide_eq_true f3
       go_upto_region 24 with fail
       have Fs:Fr (fun b=>b = wo.heap.size) wr (wr.setCell ⟨wo.heap.size,1,none⟩ (.bool true)):=(Fr.refl (fun b=>b = wo.heap.size) wr).setCell (p:=⟨wo.heap.size,1,none⟩) rfl _
       have s0:(wr.setCell ⟨wo.heap.size,1,none⟩ (.bool true)).cell? ⟨wo.heap.size,0,none⟩ = some (.slice vra (relK (k:Int) (opnT tk n A k) (askB x) (fun i=>demB (tk i).C x) n).length vrc):=by rw [World.cell?_setCell_other _ _ _ _ (addr_ne (by omega))];exact HIN2.out.c0
       have s1:(wr.setCell ⟨wo.heap.size,1,none⟩ (.bool true)).cell? ⟨wo.heap.size,1,none⟩ = some (.bool true):=World.cell?_setCell_same _ _ _ HIN2.out.c1
       generalize wr.setCell ⟨wo.heap.size,1,none⟩ (.bool true) = ws at *
       obtain ⟨X,hoX,hpush⟩:=out_push HIN2.out HK.out.2.2.2.2.2 HK.out.2.2.2.2.1 Fs
       have HPU:=Lib.hid hpush
       have hss:=Fs.size
       clear hpush
       rw [madeT_len] at hoX
       go_wp2_with (at_builtin;refine wpList_append_row rfl _ _ 34 rfl (w.heap.size + 1) 55 i55 _ 2 32 Tryz.underlying34 ki55 kz551 kz552 kz553 rfl (by omega) u7 k (X.flatMap inc) rfl (own_fr2 hoX (Fr.of_below (S:=fun _=>False) (bel_alloc (Below.refl _ _) _)) (fun _ _ t=>t)) (.slice (some ⟨ws.heap.size,0,none⟩) 1 1) 1 [(.slice vra (relK (k:Int) (opnT tk n A k) (askB x) (fun i=>demB (tk i).C x) n).length vrc),.bool true] rfl rfl (.inr ⟨⟨ws.heap.size,0,none⟩,1,rfl,fun j u hu=>by rw [add_none,Nat.zero_add];exact cell_newb _ #[(.slice vra (relK (k:Int) (opnT tk n A k) (askB x) (fun i=>demB (tk i).C x) n).length vrc),.bool true] _ _ j _ rfl hu⟩) (by simp [Value.oneCell']) (by unfold maxLen;omega) (by omega) (by simp;omega) ?_;intro v7 w7 own7 gr7 at7)
       obtain ⟨n1,n2,n3,n4⟩:=HPU.out true _ w7 v7 gr7 (by rw [madeT_len];exact own7) at7
       have hu7:∀ b,u7.ownBlock = some b → w.heap.size + 1 ≤ b:=fun b e=>ownsRow_block hoX b e
       have HN:Hid (OpW 0 n w7 gb (opnT tk n A (k + 1)) ∧ w7.cell? ⟨w.heap.size,0,none⟩ = some (.int .i64 bu) ∧ w7.cell? ⟨w.heap.size,1,none⟩ = some (.slice a n c) ∧ Below w.heap.size w w7 ∧ v7.ownBlock ≠ some gb ∧ OutW (w.heap.size + 1) w7 gb v7 (madeT tk n bu g A (k + 1))):=by
        refine ⟨?_,(n4.cell (p:=⟨w.heap.size,0,none⟩) (block_lt HJ.out.1) (fun e=>?_)).trans HJ.out.1,(n4.cell (p:=⟨w.heap.size,1,none⟩) (block_lt HJ.out.2.1) (fun e=>?_)).trans HJ.out.2.1,HJ.out.2.2.trans (n4.below (fun b _ e=>?_) HJ.out.2.2.size),n1,?_⟩
        ·show OpW 0 n w7 gb (opnK (fun i=>(tk i).T) k (opnT tk n A k) (askB (askAt A k)) n)
         rw [HASK.out];exact n3
        ·rcases e with e | e
         ·have:w.heap.size = wo.heap.size:=e;omega
         ·have:=hu7 w.heap.size e;omega
        ·rcases e with e | e
         ·have:w.heap.size = wo.heap.size:=e;omega
         ·have:=hu7 w.heap.size e;omega
        ·rcases e with e | e
         ·omega
         ·have:=hu7 b e;omega
        ·rw [madeT_succ,show rowT tk n A k = relK k (opnT tk n A k) (askB x) (fun i=>demB (tk i).C x) n by unfold rowT;rw [HASK.out],show mhit bu g (fun j=>(askAt A j).2.2) k = true by unfold mhit mstep;simp only [HASK.out,hst,hfs];simp [f0,f3]]
         exact n2
       have HF:Hid (mfirst bu g (fun j=>(askAt A j).2.2) (k + 1) = (k:Int)):=by show (mstep _ _ _ _ _).1 = _;unfold mstep;simp only [HASK.out,hst,hfs];simp [f0,f3]
       clear own7 gr7 at7 n1 n2 n3 n4 hoX s0 s1 Fs hu7
       go_wp2_with fail
       go_roundw
       case rel=>exact ⟨k + 1,by omega,by simp,by rw [HF.out],HN.out⟩
       case measure=>simp [intOf];omega
  ·have hkn:k = A.length:=by omega
   subst hkn
   have hdl:decide ((A.length:Int) < (A.length:Int)) = false:=decide_eq_false (by omega)
   obtain ⟨ai,ci,hv,hins⟩:=HK.out.2.2.2.2.2.ins
   rw [madeT_len] at hv
   have HE:=Lib.hid (And.intro hins HK.out.2.2.2.1)
   clear hins HK
   subst hv
   go_wp2_with fail
   go_ret
   exact ⟨_,_,rfl,HE.out⟩
end
end Go.Proofs.YtnoahekcemfmcaaGreatDoor
