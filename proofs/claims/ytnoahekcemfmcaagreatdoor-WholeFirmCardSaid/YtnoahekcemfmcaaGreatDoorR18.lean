/- A part of the walk: W6 W7 W8 W9 W10. -/
import Derived.Test.YtnoahekcemfmcaaGreatDoorR17
import Derived.Deep.AppendLies
import Derived.Shelf.Abstract
namespace Go.Proofs.YtnoahekcemfmcaaGreatDoor
set_option linter.unusedVariables false
set_option linter.unusedSimpArgs false
set_option maxHeartbeats 80000000
set_option maxRecDepth 100000
section
open Go.RowKit
theorem Tryz.info166:(Tryz.prog.info? 166).map (fun i=>(i.zero,i.size,i.bytes)) = some (some (.agg #[.int .i64 0,.int .i64 0,.int .i64 0,.int .i64 0]),4,32):=by kernel_rfl
theorem placePred_any (x:Q) (id:Int) (Bc:Nat) (w:World) (hc:w.cell? ⟨Bc,0,none⟩ = some (.int .i64 id)) :
  Calls Tryz.prog 148 (#[qv x] ++ #[.pointer (some ⟨Bc,0,none⟩)]) w fun e w'=>e = .returned (.bool (x.2.2.2 == id)) ∧ Below w.heap.size w w':=by
 obtain ⟨x0,x1,x2,x3⟩:=x
 have hc':(w.alloc (.cells #[.int .i64 x0,.int .i64 x1,.int .i64 x2,.int .i64 x3] 166)).cell? ⟨Bc,0,none⟩ = some (.int .i64 id):=by rw [World.cell?_alloc_lt w _ _ (block_lt hc)];exact hc
 show Calls Tryz.prog 148 #[.agg #[.int .i64 x0,.int .i64 x1,.int .i64 x2,.int .i64 x3],.pointer (some ⟨Bc,0,none⟩)] w _
 go_enter Tryz.func148,Tryz.ntmps148
 go_wp2_with fail
 go_ret
 exact ⟨rfl,(Below.refl _ _).alloc (Nat.le_refl _) _⟩
theorem HA.len_le {e:TypeId} {B:Nat} {w:World} {p:Nat} {F:Nat → Prop} {l:List Q} {room:Nat} (h:HA e B w p F l room):l.length ≤ 9223372036854775807:=by
 obtain ⟨a,c,hc,ho,_⟩:=h.row
 rcases ho.2 with ⟨_,h0⟩ | ⟨g,cap,cur,hv,_,_,hn,hm,_⟩
 ·omega
 ·unfold maxLen at hm;omega
theorem place_any {B:Nat} {w:World} {p:Nat} {F:Nat → Prop} {l:List Q} {room:Nat} (h:HA 166 B w p F l room) (id:Int) :
  Calls Tryz.prog 103 #[.pointer (some ⟨p,0,none⟩),.int .i64 id] w fun e w'=>(∃ r:Int,e = .returned (.int .i64 r) ∧ Idx (fun x=>x.2.2.2 == id) l r) ∧ Below w.heap.size w w':=by
 obtain ⟨a,c,hc,ho,_⟩:=h.row
 have hll:=h.len_le
 have hb1:Below w.heap.size w (w.alloc (.cells #[.int .i64 id] 3)):=(Below.refl _ _).alloc (Nat.le_refl _) _
 have hq:=(qs_of_own ho rfl).keep hb1
 have hc':(w.alloc (.cells #[.int .i64 id] 3)).cell? ⟨p,0,none⟩ = some (.slice a l.length c):=(hb1.cell (p:=⟨p,0,none⟩) (block_lt (a:=⟨p,0,none⟩) hc)).trans hc
 have hid:=cell_newb w #[.int .i64 id] 3 _ 0 _ rfl rfl
 have hsz:w.heap.size < (w.alloc (.cells #[.int .i64 id] 3)).heap.size:=by simp
 have eg:∀ args w,(callFunc 148 args).run Tryz.prog w = .ok (.enter 148 args) w:=enters_of Tryz.func148 (by kernel_rfl) rfl
 have C:=Lib.hid (idxK_any w.heap.size a l.length c l (fun x=>x.2.2.2 == id) 148 #[.pointer (some ⟨w.heap.size,0,none⟩)] (w.alloc (.cells #[.int .i64 id] 3)) eg hq (by omega) hll
  (fun W hW x=>placePred_any x id w.heap.size W ((hW.cell (p:=⟨w.heap.size,0,none⟩) hsz).trans hid)))
 have Hb1:=Lib.hid hb1
 clear eg hq ho hc hid hb1
 go_enter Tryz.func103,Tryz.ntmps103
 go_wp2_with fail
 refine C.out.mono ?_
 rintro e w2 ⟨⟨r,rfl,hr⟩,hb2⟩
 have Hr:=Lib.hid hr;clear hr
 go_wp2_with fail
 go_ret
 exact ⟨⟨r,rfl,Hr.out⟩,Hb1.out.trans (hb2.mono (by omega))⟩
theorem hnew_good (B room:Nat) (w:World) (h1:1 ≤ room) (h2:room ≤ 1024) (hB:B ≤ w.heap.size) :
  Calls Tryz.prog 37 #[.int .i64 room] w fun e w'=>(∃ p F,e = .returned (.tuple #[.pointer (some ⟨p,0,none⟩),.int .i64 0]) ∧ HA 166 B w' p F [] room ∧ (∀ k,F k → w.heap.size ≤ k)) ∧ Below w.heap.size w w':=by
 go_enter Tryz.func37,Tryz.ntmps37
 go_wp2_with fail
 go_ret2
 refine ⟨⟨w.heap.size,(· = w.heap.size),rfl,⟨by simp,rfl,fun k hk=>by subst hk;simp [hB],cell_newb _ _ _ _ 1 _ rfl rfl,fun o=>by simp,none,0,cell_newb _ _ _ _ 0 _ rfl rfl,World.ownsRow_nil _ _ _ _,by simp [Value.ownBlock]⟩,fun k hk=>by omega⟩,(Below.refl _ _).alloc (Nat.le_refl _) _⟩
def peekL (l:List Q):Q × Bool:=match l with | []=>((0,0,0,0),false) | x :: _=>(x,true)
theorem peek_any {B:Nat} {w:World} {p:Nat} {F:Nat → Prop} {l:List Q} {room:Nat} (h:HA 166 B w p F l room) :
  Calls Tryz.prog 70 #[.pointer (some ⟨p,0,none⟩)] w fun e w'=>e = .returned (.tuple #[qv (peekL l).1,.bool (peekL l).2]) ∧ Below w.heap.size w w':=by
 obtain ⟨a,c,hc,ho,_⟩:=h.row
 have hp1:=h.p1
 have hll:=h.len_le
 have hb1:∀ o,Below w.heap.size w (w.alloc o):=fun o=>(Below.refl _ _).alloc (Nat.le_refl _) _
 have hc':∀ o,(w.alloc o).cell? ⟨p,0,none⟩ = some (.slice a l.length c):=fun o=>((hb1 o).cell (p:=⟨p,0,none⟩) (block_lt (a:=⟨p,0,none⟩) hc)).trans hc
 cases l with
 | nil =>
  unfold qv peekL
  clear h ho hb1
  go_enter Tryz.func70,Tryz.ntmps70
  go_wp2_with fail
  exact bodyPost_ret (v:=.tuple #[.agg #[.int .i64 0,.int .i64 0,.int .i64 0,.int .i64 0],.bool false]) (by simp [results,Tryz.results28,go_sem]) rfl ⟨rfl,(Below.refl _ _).alloc (Nat.le_refl _) _⟩
 | cons x l =>
  obtain ⟨g,cap,hv,_,hg,_⟩:=ownsRow_cells ho (by simp)
  simp only [Value.slice.injEq,true_and] at hv
  obtain ⟨rfl,_⟩:=hv
  have hx:=(h.at_ hc).1 0 (by simp)
  simp only [List.getElem_cons_zero,Nat.zero_mul] at hx
  obtain ⟨x0,x1,x2,x3⟩:=x
  obtain ⟨c0,c1,c2,c3⟩:=hx
  simp only [Nat.zero_add] at c0 c1 c2 c3
  have d0:∀ o,(w.alloc o).cell? ⟨g,0,none⟩ = some (.int .i64 x0):=fun o=>((hb1 o).cell (p:=⟨g,0,none⟩) hg).trans c0
  have d1:∀ o,(w.alloc o).cell? ⟨g,1,none⟩ = some (.int .i64 x1):=fun o=>((hb1 o).cell (p:=⟨g,1,none⟩) hg).trans c1
  have d2:∀ o,(w.alloc o).cell? ⟨g,2,none⟩ = some (.int .i64 x2):=fun o=>((hb1 o).cell (p:=⟨g,2,none⟩) hg).trans c2
  have d3:∀ o,(w.alloc o).cell? ⟨g,3,none⟩ = some (.int .i64 x3):=fun o=>((hb1 o).cell (p:=⟨g,3,none⟩) hg).trans c3
  unfold qv peekL
  clear h ho hb1
  have hlI2:(0:Int) < (l.length:Int) + 1:=by omega
  go_enter Tryz.func70,Tryz.ntmps70
  go_wp2_with fail
  exact bodyPost_ret (v:=.tuple #[.agg #[.int .i64 x0,.int .i64 x1,.int .i64 x2,.int .i64 x3],.bool true]) (by simp [results,Tryz.results28,go_sem]) rfl ⟨rfl,(Below.refl _ _).alloc (Nat.le_refl _) _⟩
end
section
open Go.RowKit
theorem HA.cut {e:TypeId} {B:Nat} {w:World} {p g c:Nat} {F:Nat → Prop} {l:List Q} {room:Nat} (h:HA e B w p F l room) (hc:w.cell? ⟨p,0,none⟩ = some (.slice (some ⟨g,0,none⟩) l.length c)) (k:Nat) (hk:k ≤ l.length) :
  HA e B (w.setCell ⟨p,0,none⟩ (.slice (some ⟨g,0,none⟩) k c)) p F (l.take k) room:=by
 obtain ⟨a,c',h1,h2,h3⟩:=h.row
 rw [hc] at h1
 simp only [Option.some.injEq,Value.slice.injEq,true_and] at h1
 obtain ⟨rfl,rfl⟩:=h1
 have hgp:g ≠ p:=(h3 g rfl).2
 have hl:(l.take k).length = k:=by rw [List.length_take,Nat.min_eq_left hk]
 refine ⟨by simpa [World.setCell] using h.p1,h.fp,fun j hj=>by simpa [World.setCell] using h.flt j hj,by rw [World.cell?_setCell_other _ _ _ _ (addr_ne (by omega))];exact h.room,fun o=>by rw [World.frozen?_setCell];exact h.fz o,some ⟨g,0,none⟩,c,?_,?_,?_⟩
 ·rw [hl];exact World.cell?_setCell_same _ _ _ hc
 ·rw [hl];exact ownsRow_keep (ownsRow_prefix h2 rfl hk) fun j hj=>Below.heap_setCell _ _ _ _ (fun e=>hgp (by simp only [Value.ownBlock,Option.some.injEq] at hj;rw [hj];exact e))
 ·intro j hj
  exact h3 j hj
theorem out_any {B:Nat} {w:World} {p:Nat} {F:Nat → Prop} {l:List Q} {room:Nat} (h:HA 166 B w p F l room) (i:Nat) (hi:i < l.length) (hll:l.length ≤ 4096) :
  Calls Tryz.prog 138 #[.pointer (some ⟨p,0,none⟩),.int .i64 i] w fun e w'=>e = .returned (.tuple #[]) ∧ HA 166 B w' p F (outL ltK l i) room ∧ Fr F w w':=by
 obtain ⟨a,c,hc,ho,_⟩:=h.row
 obtain ⟨g,cap,hv,_⟩:=ownsRow_cells ho (by omega)
 simp only [Value.slice.injEq,true_and] at hv
 obtain ⟨rfl,_⟩:=hv
 obtain ⟨n,hn⟩:∃ n,l.length - 1 = n:=⟨_,rfl⟩
 have hS:=swap_h h i n hi (by omega)
 have hlen:l.length = n + 1:=by omega
 have HS:=Lib.hid hS
 have Hn:=Lib.hid hn
 have Hlen:=Lib.hid hlen
 have hle:n + 1 ≤ 4096:=by omega
 have hin:i ≤ n:=by omega
 rw [hlen] at hc
 have hlc:=h.len_le
 clear hS ho hn hlen hi hll hlc h
 have hnI:((n + 1:Nat):Int) - 1 = (n:Int):=by omega
 have hnI2:(n:Int) + 1 - 1 = (n:Int):=by omega
 go_enter Tryz.func138,Tryz.ntmps138
 go_wp2_with fail
 refine HS.out.mono ?_
 rintro e w2 ⟨rfl,h2,hf2⟩
 have hsl:=swp_length l i n
 obtain ⟨a2,c2,hc2,ho2,_⟩:=h2.row
 obtain ⟨g2,cap2,hv2,_,_,hcap,_⟩:=ownsRow_cells ho2 (by rw [hsl,Hlen.out];omega)
 simp only [Value.slice.injEq,true_and] at hv2
 obtain ⟨rfl,rfl⟩:=hv2
 have hcut:=h2.cut hc2 n (by rw [hsl,Hlen.out];omega)
 have hfz:=h2.fz 0
 rw [hsl,Hlen.out] at hc2 hcap
 have hncI:(n:Int) ≤ (c2:Int):=by omega
 have hn0:(0:Int) ≤ (n:Int):=by omega
 have hf3:Fr F w (w2.setCell ⟨p,0,none⟩ (.slice (some ⟨g2,0,none⟩) n c2)):=hf2.setCell (p:=⟨p,0,none⟩) h2.fp _
 have hl1:((swp l i n).take n).length = n:=by rw [List.length_take,hsl,Hlen.out];omega
 have Hcut:=Lib.hid hcut
 have Hf3:=Lib.hid hf3
 have Hl1:=Lib.hid hl1
 have hout:outL ltK l i = if i < n then upL ltK (downL ltK ((swp l i n).take n) i) i else (swp l i n).take n:=by unfold outL;rw [Hn.out]
 have Hout:=Lib.hid hout
 clear ho2 hcut hf3 hsl hl1 hout h2 hf2
 by_cases hlt:i < n
 ·have hltI:(i:Int) < (n:Int):=by omega
  have hD:=Lib.hid (down_any Hcut.out i (by rw [Hl1.out];exact hlt) (by rw [Hl1.out];omega))
  have E:Hid (outL ltK l i = upL ltK (downL ltK ((swp l i n).take n) i) i):=by show _ = _;rw [Hout.out,if_pos hlt]
  have hdl:(downL ltK ((swp l i n).take n) i).length = n:=by
   rw [downL_length _ _ _ (Nat.le_refl _),Hl1.out]
  have Hdl:=Lib.hid hdl
  clear hdl
  go_wp2_with fail
  refine hD.out.mono ?_
  rintro e w3 ⟨rfl,h3,hf3⟩
  have hU:=Lib.hid (up_any h3 i (by rw [Hdl.out];exact hlt))
  have Hf4:=Lib.hid hf3
  clear h3 hf3
  go_wp2_with fail
  refine hU.out.mono ?_
  rintro e w4 ⟨rfl,h4,hf4⟩
  go_wp2_with fail
  go_end0
  exact ⟨rfl,by rw [E.out];exact h4,(Hf3.out.trans Hf4.out (fun _ _ h=>h) (fun _ _ h=>h)).trans hf4 (fun _ _ h=>h) (fun _ _ h=>h)⟩
 ·have hltI:(n:Int) ≤ (i:Int):=by omega
  have E:Hid (outL ltK l i = (swp l i n).take n):=by show _ = _;rw [Hout.out,if_neg hlt]
  clear hlt
  go_wp2_with fail
  go_end0
  exact ⟨rfl,by rw [E.out];exact Hcut.out,Hf3.out⟩
end
section
open Go.RowKit
def remL (l:List Q) (r:Int):List Q:=if 0 ≤ r then outL ltK l r.toNat else l
def chgL (l:List Q) (r:Int) (k:Q):List Q:=if 0 ≤ r then upL ltK (downL ltK (l.set r.toNat k) r.toNat) r.toNat else l
theorem remove_any {B:Nat} {w:World} {p:Nat} {F:Nat → Prop} {l:List Q} {room:Nat} (h:HA 166 B w p F l room) (id:Int) (hll:l.length ≤ 4096) :
  Calls Tryz.prog 94 #[.pointer (some ⟨p,0,none⟩),.int .i64 id] w fun e w'=>∃ r:Int,Idx (fun x=>x.2.2.2 == id) l r ∧ e = .returned (.bool (decide (0 ≤ r))) ∧ HA 166 B w' p F (remL l r) room ∧ Fr F w w':=by
 have P:=Lib.hid (place_any h id)
 have HH:=Lib.hid h
 clear h
 go_enter Tryz.func94,Tryz.ntmps94
 go_wp2_with fail
 refine P.out.mono ?_
 rintro e w2 ⟨⟨r,rfl,hr⟩,hb⟩
 have Hr:=Lib.hid hr;clear hr
 have h2:=HH.out.below hb
 have hf2:Fr F w w2:=Fr.of_below hb
 by_cases h0:0 ≤ r
 ·obtain ⟨q,hq,rfl⟩:∃ q:Nat,q < l.length ∧ r = (q:Int):=by
   rcases Hr.out with ⟨h,_⟩ | ⟨q,hq,h,_⟩
   ·omega
   ·exact ⟨q,hq,h⟩
  have hO:=Lib.hid (out_any h2 q hq hll)
  have E:Hid (remL l (q:Int) = outL ltK l q):=by show _ = _;unfold remL;rw [if_pos h0];simp
  have D:Hid (decide (0 ≤ (q:Int)) = true):=by show _ = _;simp
  have Hf2:=Lib.hid hf2
  clear h2 hb hf2
  go_wp2_with fail
  refine hO.out.mono ?_
  rintro e w3 ⟨rfl,h3,hf3⟩
  go_wp2_with fail
  go_ret
  exact ⟨(q:Int),Hr.out,by rw [D.out];rfl,by rw [E.out];exact h3,Hf2.out.trans hf3 (fun _ _ h=>h) (fun _ _ h=>h)⟩
 ·have h0':r < 0:=by omega
  have E:Hid (remL l r = l):=by show _ = _;unfold remL;rw [if_neg h0]
  have D:Hid (decide (0 ≤ r) = false):=by show _ = _;simp;omega
  clear h0
  have HH2:=Lib.hid h2
  clear h2 hb
  go_wp2_with fail
  go_ret
  exact ⟨r,Hr.out,by rw [D.out];rfl,by rw [E.out];exact HH2.out,hf2⟩
def popL (l:List Q):Q × Bool × List Q:=match l with | []=>((0,0,0,0),false,[]) | x :: l=>(x,true,outL ltK (x :: l) 0)
end
section
open Go.RowKit
theorem change_any {B:Nat} {w:World} {p:Nat} {F:Nat → Prop} {l:List Q} {room:Nat} (h:HA 166 B w p F l room) (k:Q) (hll:l.length ≤ 4096) :
  Calls Tryz.prog 107 #[.pointer (some ⟨p,0,none⟩),qv k] w fun e w'=>∃ r:Int,Idx (fun x=>x.2.2.2 == k.2.2.2) l r ∧ e = .returned (.bool (decide (0 ≤ r))) ∧ HA 166 B w' p F (chgL l r k) room ∧ Fr F w w':=by
 obtain ⟨k0,k1,k2,k3⟩:=k
 have hfa:Below w.heap.size w (w.alloc (.cells #[.int .i64 k0,.int .i64 k1,.int .i64 k2,.int .i64 k3] 166)):=(Below.refl _ _).alloc (Nat.le_refl _) _
 have h1:=h.below hfa
 have P:=Lib.hid (place_any h1 k3)
 have b0:=cell_newb w #[.int .i64 k0,.int .i64 k1,.int .i64 k2,.int .i64 k3] 166 _ 0 _ rfl rfl
 have b1:=cell_newb w #[.int .i64 k0,.int .i64 k1,.int .i64 k2,.int .i64 k3] 166 _ 1 _ rfl rfl
 have b2:=cell_newb w #[.int .i64 k0,.int .i64 k1,.int .i64 k2,.int .i64 k3] 166 _ 2 _ rfl rfl
 have b3:=cell_newb w #[.int .i64 k0,.int .i64 k1,.int .i64 k2,.int .i64 k3] 166 _ 3 _ rfl rfl
 have hk1:w.heap.size < (w.alloc (.cells #[.int .i64 k0,.int .i64 k1,.int .i64 k2,.int .i64 k3] 166)).heap.size:=by simp
 have hkF:¬ F w.heap.size:=fun hk=>by have:=(h.flt _ hk).1;omega
 have Hfa:=Lib.hid hfa
 have H1:=Lib.hid h1
 unfold qv
 simp only
 clear h h1 hfa
 go_enter Tryz.func107,Tryz.ntmps107
 go_wp2_with fail
 generalize hw1:w.alloc (.cells #[.int .i64 k0,.int .i64 k1,.int .i64 k2,.int .i64 k3] 166) = w1 at *
 have Hw1:=Lib.hid hw1
 clear hw1
 generalize hkb:w.heap.size = kb at *
 have Hkb:=Lib.hid hkb
 clear hkb
 refine P.out.mono ?_
 rintro e w2 ⟨⟨r,rfl,hr⟩,hb⟩
 have Hr:=Lib.hid hr;clear hr
 have h2:=H1.out.below hb
 have hf2:Fr F w w2:=((Fr.of_below (S:=F) (by rw [Hkb.out];exact Hfa.out)).trans (U:=F) (Fr.of_below (S:=F) hb) (fun _ _ h=>h) (fun _ _ h=>h))
 have d0:=(hb.cell (p:=⟨kb,0,none⟩) hk1).trans b0
 have d1:=(hb.cell (p:=⟨kb,1,none⟩) hk1).trans b1
 have d2:=(hb.cell (p:=⟨kb,2,none⟩) hk1).trans b2
 have d3:=(hb.cell (p:=⟨kb,3,none⟩) hk1).trans b3
 clear b0 b1 b2 b3
 by_cases h0:0 ≤ r
 ·obtain ⟨q,hq,rfl⟩:∃ q:Nat,q < l.length ∧ r = (q:Int):=by
   rcases Hr.out with ⟨h,_⟩ | ⟨q,hq,h,_⟩
   ·omega
   ·exact ⟨q,hq,h⟩
  obtain ⟨a,c,hc,ho,_⟩:=h2.row
  obtain ⟨g,cap,hv,_⟩:=ownsRow_cells ho (by omega)
  simp only [Value.slice.injEq,true_and] at hv
  obtain ⟨rfl,_⟩:=hv
  obtain ⟨hQ,hfz,hgp,hFg,hlc,hc9⟩:=h2.at_ hc
  obtain ⟨h3,hc3⟩:=h2.set hc q hq (k0,k1,k2,k3)
  have hf3:Fr F w (set4 w2 g (q * 4) (k0,k1,k2,k3)):=hf2.trans (U:=F) (set4_fr w2 g (q * 4) (k0,k1,k2,k3)) (fun _ _ h=>h) (by rintro i _ rfl;exact hFg)
  obtain ⟨a0,a1,a2,a3⟩:=hQ q hq
  have fi0:=hfz (q * 4)
  have fi1:=hfz (q * 4 + 1)
  have fi2:=hfz (q * 4 + 2)
  have fi3:=hfz (q * 4 + 3)
  have hls:(l.set q (k0,k1,k2,k3)).length = l.length:=List.length_set
  have hdl:(downL ltK (l.set q (k0,k1,k2,k3)) q).length = l.length:=by rw [downL_length _ _ _ (Nat.le_refl _),hls]
  have hD:=fun n=>(down_any (h3.drewN n) q (by rw [hls];exact hq) (by rw [hls];exact hll))
  have E:Hid (chgL l (q:Int) (k0,k1,k2,k3) = upL ltK (downL ltK (l.set q (k0,k1,k2,k3)) q) q):=by show _ = _;unfold chgL;rw [if_pos h0];simp
  have D:Hid (decide (0 ≤ (q:Int)) = true):=by show _ = _;simp
  have HD:=Lib.hid hD
  have Hdl:=Lib.hid hdl
  have Hf3:=Lib.hid hf3
  have hq0:(0:Int) ≤ (q:Int):=by omega
  have hqI:(q:Int) < (l.length:Int):=by omega
  obtain ⟨x0,hx0⟩:∃ x,l[q].1 = x:=⟨_,rfl⟩
  obtain ⟨x1,hx1⟩:∃ x,l[q].2.1 = x:=⟨_,rfl⟩
  obtain ⟨x2,hx2⟩:∃ x,l[q].2.2.1 = x:=⟨_,rfl⟩
  obtain ⟨x3,hx3⟩:∃ x,l[q].2.2.2 = x:=⟨_,rfl⟩
  rw [hx0] at a0
  rw [hx1] at a1
  rw [hx2] at a2
  rw [hx3] at a3
  clear hb hf2 h2 ho hQ hfz h3 hc3 hls hdl hD hf3 hx0 hx1 hx2 hx3
  go_wp2_with fail
  go_region
  all_goals (go_wp2_with fail)
  all_goals
   refine (HD.out 1).mono ?_
   rintro e w3 ⟨rfl,h4,hf4⟩
   have hU:=Lib.hid (up_any h4 q (by rw [Hdl.out];exact hq))
   have Hf4:=Lib.hid hf4
   clear h4 hf4
   go_wp2_with fail
   refine hU.out.mono ?_
   rintro e w4 ⟨rfl,h5,hf5⟩
   go_wp2_with fail
   go_ret
   exact ⟨(q:Int),Hr.out,by rw [D.out];rfl,by rw [E.out];exact h5,((Hf3.out.drewN 1).trans (U:=F) Hf4.out (fun _ _ h=>h) (fun _ _ h=>h)).trans hf5 (fun _ _ h=>h) (fun _ _ h=>h)⟩
 ·have h0':r < 0:=by omega
  have E:Hid (chgL l r (k0,k1,k2,k3) = l):=by show _ = _;unfold chgL;rw [if_neg h0]
  have D:Hid (decide (0 ≤ r) = false):=by show _ = _;simp;omega
  clear h0
  have HH2:=Lib.hid h2
  clear h2 hb
  go_wp2_with fail
  go_ret
  exact ⟨r,Hr.out,by rw [D.out];rfl,by rw [E.out];exact HH2.out,hf2⟩
end
section
open Go.RowKit
def pushL (l:List Q) (room:Nat) (r:Int) (k:Q):Int × List Q:=if 0 ≤ r then (7,l) else if l.length = room then (3,l) else (0,upL ltK (l ++ [k]) l.length)
theorem HA.grow {B:Nat} {w w6:World} {p:Nat} {F:Nat → Prop} {l:List Q} {room:Nat} (h:HA 166 B w p F l room) {a:Option Addr} {c:Nat} (hc:w.cell? ⟨p,0,none⟩ = some (.slice a l.length c))
  {W:World} (hW:Fr (fun _=>False) w W) {gg cap:Nat} {k:Q} (hown:w6.ownsRow B 166 4 (.slice (some ⟨gg,0,none⟩) (l.length + 1) cap) (l.length + 1) (l.flatMap qc ++ qc k)) (hg:W.grownBy w6 (Value.slice a l.length c).ownBlock)
  (hat:(Value.slice a l.length c).ownBlock = some gg ∨ gg = w.heap.size + 1) (hlt:gg < w6.heap.size) :
  HA 166 B (w6.setCell ⟨p,0,none⟩ (.slice (some ⟨gg,0,none⟩) (l.length + 1) cap)) p (fun j=>F j ∨ gg = j) (l ++ [k]) room ∧ Fr F w (w6.setCell ⟨p,0,none⟩ (.slice (some ⟨gg,0,none⟩) (l.length + 1) cap)) ∧
   (∀ j,(F j ∨ gg = j) → F j ∨ w.heap.size ≤ j) ∧ (w6.setCell ⟨p,0,none⟩ (.slice (some ⟨gg,0,none⟩) (l.length + 1) cap)).cell? ⟨p,0,none⟩ = some (.slice (some ⟨gg,0,none⟩) (l.length + 1) cap):=by
 obtain ⟨a',c',h1,h2,h3⟩:=h.row
 rw [hc] at h1
 simp only [Option.some.injEq,Value.slice.injEq,true_and] at h1
 obtain ⟨rfl,rfl⟩:=h1
 have hnp:(Value.slice a l.length c).ownBlock ≠ some p:=fun e=>(h3 p e).2 rfl
 have hgp:gg ≠ p:=by
  intro e
  rcases hat with hat | hat
  ·exact hnp (by rw [hat,e])
  ·have:=h.p1;omega
 have G:=grown_keep (w:=w) (p:=p) hg hW h.p1 hnp
 have f6:Fr F w w6:=Fr.grown (hW.mono (fun _ _ h=>h.elim)) hg (fun g hg' _=>(h3 g hg').1)
 refine ⟨⟨?_,.inl h.fp,?_,?_,?_,some ⟨gg,0,none⟩,cap,?_,?_,?_⟩,f6.setCell (p:=⟨p,0,none⟩) h.fp _,?_,World.cell?_setCell_same _ _ _ ((G 0).1.trans hc)⟩
 ·simpa [World.setCell] using Nat.lt_of_lt_of_le h.p1 f6.size
 ·intro j hj
  rcases hj with hj | rfl
  ·have:=h.flt j hj
   exact ⟨by simpa [World.setCell] using Nat.lt_of_lt_of_le this.1 f6.size,this.2⟩
  ·exact ⟨by simpa [World.setCell] using hlt,ownsRow_block hown gg rfl⟩
 ·rw [World.cell?_setCell_other _ _ _ _ (addr_ne (by omega)),(G 1).1];exact h.room
 ·intro o;rw [World.frozen?_setCell,(G o).2];exact h.fz o
 ·rw [List.length_append];exact World.cell?_setCell_same _ _ _ ((G 0).1.trans hc)
 ·have hlen:(l ++ [k]).length = l.length + 1:=by simp
  rw [hlen,List.flatMap_append]
  refine ownsRow_keep (by simpa using hown) fun j hj=>Below.heap_setCell _ _ _ _ (fun e=>hgp ?_)
  simp only [Value.ownBlock,Option.some.injEq] at hj
  rw [hj];exact e
 ·intro g hg'
  simp only [Value.ownBlock,Option.some.injEq] at hg'
  exact ⟨.inr hg',by rw [← hg'];exact hgp⟩
 ·intro j hj
  rcases hj with hj | rfl
  ·exact .inl hj
  ·rcases hat with hat | hat
   ·exact .inl (h3 gg hat).1
   ·right;omega
theorem push_any {B:Nat} {w:World} {p:Nat} {F:Nat → Prop} {l:List Q} {room:Nat} (h:HA 166 B w p F l room) (hB:B ≤ w.heap.size) (k:Q) (hll:l.length ≤ 2048) :
  Calls Tryz.prog 67 #[.pointer (some ⟨p,0,none⟩),qv k] w fun e w'=>∃ r:Int,Idx (fun x=>x.2.2.2 == k.2.2.2) l r ∧ e = .returned (.int .i64 (pushL l room r k).1) ∧
   ∃ F',HA 166 B w' p F' (pushL l room r k).2 room ∧ (∀ j,F' j → F j ∨ w.heap.size ≤ j) ∧ Fr F w w':=by
 obtain ⟨k0,k1,k2,k3⟩:=k
 have hfa:Below w.heap.size w (w.alloc (.cells #[.int .i64 k0,.int .i64 k1,.int .i64 k2,.int .i64 k3] 166)):=(Below.refl _ _).alloc (Nat.le_refl _) _
 have h1:=h.below hfa
 have P:=Lib.hid (place_any h1 k3)
 have b0:=cell_newb w #[.int .i64 k0,.int .i64 k1,.int .i64 k2,.int .i64 k3] 166 _ 0 _ rfl rfl
 have b1:=cell_newb w #[.int .i64 k0,.int .i64 k1,.int .i64 k2,.int .i64 k3] 166 _ 1 _ rfl rfl
 have b2:=cell_newb w #[.int .i64 k0,.int .i64 k1,.int .i64 k2,.int .i64 k3] 166 _ 2 _ rfl rfl
 have b3:=cell_newb w #[.int .i64 k0,.int .i64 k1,.int .i64 k2,.int .i64 k3] 166 _ 3 _ rfl rfl
 have hk1:w.heap.size < (w.alloc (.cells #[.int .i64 k0,.int .i64 k1,.int .i64 k2,.int .i64 k3] 166)).heap.size:=by simp
 have Hfa:=Lib.hid hfa
 have H1:=Lib.hid h1
 unfold qv
 simp only
 clear h h1 hfa
 go_enter Tryz.func67,Tryz.ntmps67
 go_wp2_with fail
 generalize hw1:w.alloc (.cells #[.int .i64 k0,.int .i64 k1,.int .i64 k2,.int .i64 k3] 166) = w1 at *
 have Hw1:=Lib.hid hw1
 clear hw1
 generalize hkb:w.heap.size = kb at *
 have Hkb:=Lib.hid hkb
 clear hkb
 refine P.out.mono ?_
 rintro e w2 ⟨⟨r,rfl,hr⟩,hb⟩
 have Hr:=Lib.hid hr;clear hr
 have h2:=H1.out.below hb
 have hf2:Fr F w w2:=((Fr.of_below (S:=F) (by rw [Hkb.out];exact Hfa.out)).trans (U:=F) (Fr.of_below (S:=F) hb) (fun _ _ h=>h) (fun _ _ h=>h))
 have d0:=(hb.cell (p:=⟨kb,0,none⟩) hk1).trans b0
 have d1:=(hb.cell (p:=⟨kb,1,none⟩) hk1).trans b1
 have d2:=(hb.cell (p:=⟨kb,2,none⟩) hk1).trans b2
 have d3:=(hb.cell (p:=⟨kb,3,none⟩) hk1).trans b3
 clear b0 b1 b2 b3 P
 have hk2:kb < w2.heap.size:=by have:=hb.size;omega
 by_cases h0:0 ≤ r
 ·have E:Hid (pushL l room r (k0,k1,k2,k3) = (7,l)):=by show _ = _;unfold pushL;rw [if_pos h0]
  have HH2:=Lib.hid h2
  clear h2 hb
  go_wp2_with fail
  go_ret
  exact ⟨r,Hr.out,by rw [E.out];rfl,F,by rw [E.out];exact HH2.out,fun j hj=>.inl hj,hf2⟩
 ·have h0':r < 0:=by omega
  obtain ⟨a,c,hc,ho,hbk⟩:=h2.row
  have hrm:=h2.room
  by_cases hfull:l.length = room
  ·have E:Hid (pushL l room r (k0,k1,k2,k3) = (3,l)):=by show _ = _;unfold pushL;rw [if_neg h0,if_pos hfull]
   have hfb:((l.length:Int) == (room:Int)) = true:=by simp;omega
   have HH2:=Lib.hid h2
   have Hf2:=Lib.hid hf2
   clear h0 hfull h2 hb ho hbk hf2
   go_wp2_with fail
   go_quiet (fail)
   go_wp2_with fail
   go_ret
   exact ⟨r,Hr.out,by rw [E.out];rfl,F,by rw [E.out];exact HH2.out.drewN _,fun j hj=>.inl hj,Hf2.out.drewN _⟩
  ·have E:Hid (pushL l room r (k0,k1,k2,k3) = (0,upL ltK (l ++ [(k0,k1,k2,k3)]) l.length)):=by show _ = _;unfold pushL;rw [if_neg h0,if_neg hfull]
   have hfb:((l.length:Int) == (room:Int)) = false:=by simp;omega
   have HH2:=Lib.hid h2
   have Hf2:=Lib.hid hf2
   have Hbk:=Lib.hid hbk
   have hBw:B ≤ w2.heap.size:=by have:=hf2.size;have:=Hkb.out;omega
   have hp2:=h2.p1
   have fv:=h2.fz 0
   have ho':=Lib.hid ho
   clear h0 hfull hb hbk hf2 h2 ho
   go_wp2_with fail
   go_quiet (fail)
   go_wp2_with fail
   generalize hw5:World.drewN w2 _ = w5
   have hH5:HA 166 B w5 p F l room:=by rw [← hw5];exact HH2.out.drewN _
   have hf5:Fr F w w5:=by rw [← hw5];exact Hf2.out.drewN _
   have cv:w5.cell? ⟨p,0,none⟩ = some (.slice a l.length c):=by rw [← hw5];exact hc
   have hown:w5.ownsRow B 166 4 (.slice a l.length c) l.length (l.flatMap qc):=by rw [← hw5];exact ho'.out
   have fv5:w5.frozen? ⟨p,0,none⟩ = false:=hH5.fz 0
   have e0:w5.cell? ⟨kb,0,none⟩ = some (.int .i64 k0):=by rw [← hw5];exact d0
   have e1:w5.cell? ⟨kb,1,none⟩ = some (.int .i64 k1):=by rw [← hw5];exact d1
   have e2:w5.cell? ⟨kb,2,none⟩ = some (.int .i64 k2):=by rw [← hw5];exact d2
   have e3:w5.cell? ⟨kb,3,none⟩ = some (.int .i64 k3):=by rw [← hw5];exact d3
   have hp5:=hH5.p1
   have hBw5:B ≤ w5.heap.size:=by rw [← hw5];exact hBw
   have hnp:(Value.slice a l.length c).ownBlock ≠ some p:=fun e=>(Hbk.out p e).2 rfl
   have Hsz:Hid (w.heap.size ≤ w5.heap.size):=hf5.size
   have HH5:=Lib.hid hH5
   have Hf5:=Lib.hid hf5
   have HCV:=Lib.hid cv
   have hck:∀ (n:Nat) (o:Obj),((w5.drewN n).alloc o).cell? ⟨p,0,none⟩ = some (.slice a l.length c):=fun n o=>by rw [Fr.cell (S:=fun _=>False) (w:=w5) (w':=(w5.drewN n).alloc o) (p:=⟨p,0,none⟩) (((Fr.refl _ w5).drewN _).alloc _) hp5 (by simp)];exact cv
   have hfk:∀ (n:Nat) (o:Obj),((w5.drewN n).alloc o).frozen? ⟨p,0,none⟩ = false:=fun n o=>by rw [Fr.frozen (S:=fun _=>False) (w:=w5) (w':=(w5.drewN n).alloc o) (p:=⟨p,0,none⟩) (((Fr.refl _ w5).drewN _).alloc _) hp5 (by simp)];exact fv5
   obtain ⟨i0,ki,kz0,kz1,kz2⟩:=info_parts Tryz.info166
   clear hw5 hH5 hf5 d0 d1 d2 d3 hrm fv hc hBw hp2
   go_region_law (first | (refine step_append_lies _ (by rfl) _ _ _ (by rfl) B 166 i0 _ 4 32 Tryz.underlying147 ki kz0 kz1 kz2 rfl (by omega) _ _ _ (by rfl) ((hown.alloc _).drew) ⟨w5.heap.size,0,none⟩ 1 1 (qc (k0,k1,k2,k3)) (by rfl) (by rfl) (World.news_of_block (cs:=#[.int .i64 k0,.int .i64 k1,.int .i64 k2,.int .i64 k3]) (t:=166) (fr:=(0,0)) (heap_alloc_new w5 _)) (by simp [qc,Value.oneCell']) (by omega) (by unfold maxLen;omega) (by omega) (by simp;omega) (w5.heap.size + 1) (by simp) ?_;intro gg cap2 w6 hown6 hgrow hat hlt;have G6:=grown_keep (w:=w5) (p:=p) hgrow (by repeat (first | exact Fr.refl _ _ | refine Fr.alloc ?_ _ | refine Fr.drew ?_ | refine Fr.drewN ?_ _)) hp5 hnp 0;have cv6:=G6.1.trans cv;have fv6:=G6.2.trans fv5;clear G6))
   all_goals
    obtain ⟨hG,hGf,hGF,c7⟩:=HH5.out.grow HCV.out (by repeat (first | exact Fr.refl _ _ | refine Fr.alloc ?_ _ | refine Fr.drew ?_ | refine Fr.drewN ?_ _)) hown6 hgrow hat hlt
    have HG:=Lib.hid hG
    have HGf:=Lib.hid hGf
    have HGF:=Lib.hid hGF
    generalize w6.setCell ⟨p,0,none⟩ (.slice (some ⟨gg,0,none⟩) (l.length + 1) cap2) = w7 at *
    clear hGF cv6 fv6 hck hfk cv fv5 e0 e1 e2 e3 hgrow hown6
    have hU:=Lib.hid (up_any HG.out l.length (by simp))
    go_wp2_with fail
    refine hU.out.mono ?_
    rintro e w8 ⟨rfl,h8,hf8⟩
    go_wp2_with fail
    go_ret
    exact ⟨r,Hr.out,by rw [E.out];rfl,_,by rw [E.out];exact h8,fun j hj=>(HGF.out j hj).imp id (fun h=>by have:=Hsz.out;omega),(Hf5.out.trans (U:=F) HGf.out (fun _ _ h=>h) (fun _ _ h=>h)).trans (U:=F) hf8 (fun _ _ h=>h) (fun j hj h=>(HGF.out j h).elim id (fun h=>by have:=Hsz.out;omega))⟩
end
end Go.Proofs.YtnoahekcemfmcaaGreatDoor
