/- A part of the walk: Tg Th Ti. -/
import Derived.Test.YtnoahekcemfmcaaGreatDoorR38
namespace Go.Proofs.YtnoahekcemfmcaaGreatDoor
set_option linter.unusedVariables false
set_option linter.unusedSimpArgs false
set_option maxHeartbeats 80000000
set_option maxRecDepth 100000
section
open Go.RowKit
theorem numV_snoc (n:Int) (l:List Int) (c:Int):numV n (l ++ [c]) = 10 * numV n l + (c - 48):=by
 induction l generalizing n with
 | nil=>rfl
 | cons x l ih=>exact ih _
theorem numV_bd (l:List Int) (k:Nat) (h:∀ x ∈ l.take k,digitB x = true) (hk:k ≤ l.length) (h3:k ≤ 3):0 ≤ numV 0 (l.take k) ∧ numV 0 (l.take k) ≤ 999 ∧ (k ≤ 2 → numV 0 (l.take k) ≤ 99) ∧ (k ≤ 1 → numV 0 (l.take k) ≤ 9) ∧ (k = 0 → numV 0 (l.take k) = 0):=by
 induction k with
 | zero=>simp [numV]
 | succ k ih =>
  have hlt:k < l.length:=by omega
  have e:l.take (k + 1) = l.take k ++ [l[k]]:=List.take_succ_eq_append_getElem hlt
  rw [e] at h ⊢
  rw [numV_snoc]
  obtain ⟨i1,i2,i3,i4,i5⟩:=ih (fun x hx=>h x (List.mem_append_left _ hx)) (by omega) (by omega)
  have hd:=h l[k] (List.mem_append_right _ (List.mem_singleton.2 rfl))
  unfold digitB at hd
  simp only [Bool.and_eq_true,decide_eq_true_eq] at hd
  have i3':k + 1 ≤ 3 → numV 0 (l.take k) ≤ 99:=fun _=>i3 (by omega)
  refine ⟨by omega,?_,?_,?_,by omega⟩
  ·have:=i3 (by omega);omega
  ·intro h2;have:=i4 (by omega);omega
  ·intro h2;have:=i5 (by omega);omega
theorem runL_all (f:Int → Bool) (l:List Int):∀ x ∈ l.take (runL f l),f x = true:=by
 induction l with
 | nil=>simp
 | cons c l ih =>
  intro x hx
  cases hc:f c
  ·have:runL f (c :: l) = 0:=by show (if f c then runL f l + 1 else 0) = _;rw [hc];rfl
   rw [this] at hx;simp at hx
  ·have:runL f (c :: l) = runL f l + 1:=by show (if f c then runL f l + 1 else 0) = _;rw [if_pos hc]
   rw [this,List.take_succ_cons] at hx
   rcases List.mem_cons.1 hx with rfl | hx
   ·exact hc
   ·exact ih x hx
theorem strOfNums_get (xs:List Int) (k:Nat) (h:k < (strOfNums xs).size) (h2:k < xs.length):(strOfNums xs)[k] = UInt8.ofNat xs[k].toNat:=by
 have e:(strOfNums xs)[k] = (strOfNums xs).data[k]'h:=rfl
 rw [e]
 simp [strOfNums]
theorem numb_is {base:Nat} {w:World} {r b c:Nat} {bs:List Int} {st:Rdr} {so:Value} (h:RdW base w r b c bs st so) (hn:st.out.length ≤ 1000) (hbs:bs.length ≤ 1000) (hpos:0 < runL digitB (bs.drop st.at_)) (hend:st.at_ + runL digitB (bs.drop st.at_) < bs.length) (h3:runL digitB (bs.drop st.at_) ≤ 3) (hcol:0 ≤ st.col) (hcol2:st.col ≤ 100000) :
  Calls Tryz.prog 201 #[.pointer (some ⟨r,0,none⟩)] w fun e w'=>e = .returned (.bool true) ∧ ∃ so',RdW base w' r b c bs ⟨st.at_ + runL digitB (bs.drop st.at_),st.line,st.col + (runL digitB (bs.drop st.at_):Nat),st.out ++ [⟨2,(bs.drop st.at_).take (runL digitB (bs.drop st.at_)),numV 0 ((bs.drop st.at_).take (runL digitB (bs.drop st.at_))),st.line,st.col⟩]⟩ so' ∧ Fr (fun q=>q = r ∨ base ≤ q) w w':=by
 have HT:=Lib.hid (take_is 200 digitB digit_is (fun x w=>by go_simp) h hbs hpos hend hcol hcol2)
 have hall:=runL_all digitB (bs.drop st.at_)
 have hlen:((bs.drop st.at_).take (runL digitB (bs.drop st.at_))).length = runL digitB (bs.drop st.at_):=by rw [List.length_take,List.length_drop];omega
 generalize hm:runL digitB (bs.drop st.at_) = m at *
 generalize hx:(bs.drop st.at_).take m = xs at *
 obtain ⟨at_,line,col,out⟩:=st
 simp only at *
 have hc3:=h.c3
 simp only at hc3
 have hsz:(strOfNums xs).size = m:=by rw [strOfNums_size,hlen]
 have hmI:(m:Int) ≤ 3:=by omega
 have hm0:(0:Int) ≤ (m:Int):=by omega
 have HADD:=Lib.hid (fun (w':World) (v:Int) (hh:RdW base w' r b c bs ⟨at_ + m,line,col + (m:Nat),out⟩ so)=>add_is 2 xs v col hh hn)
 have HS:=Lib.hid hsz
 have hidx:∀ k,k < m → ∀ w:World,Sem.run Tryz.prog (Instr.index 9 (.string (strOfNums xs)) (.int .i64 (k:Nat))) w = .ok (.int .u8 (xs.getD k 0)) w:=fun k hk w=>by
  go_simp
  have hd:=hall xs[k] (List.getElem_mem (by omega))
  unfold digitB at hd
  simp only [Bool.and_eq_true,decide_eq_true_eq] at hd
  rw [strOfNums_get xs k _ (by omega),UInt8.toNat_ofNat']
  omega
 clear h hm hx hend hpos
 go_enter Tryz.func201,Tryz.ntmps201
 go_wp2_with (go_at_call 198;refine HT.out.mono ?_;rintro e w2 ⟨rfl,h2,f2⟩)
 have HI:=Lib.hid hidx
 clear hidx
 go_loopw [15,5] (fun ix s5 wx=>∃ k:Nat,k ≤ m ∧ ix = .int .i64 k ∧ s5 = .int .i64 (numV 0 (xs.take k)) ∧ wx = w2) (fun ix _ _=>m - (intOf ix).toNat)
 case atStart=>exact ⟨0,Nat.zero_le _,rfl,rfl,rfl⟩
 case round =>
  obtain ⟨k,hk,rfl,rfl,rfl⟩:=hrel
  by_cases hlt:k < m
  ·have hkI:(k:Int) < (m:Int):=by omega
   have hk0:(0:Int) ≤ (k:Int):=by omega
   have hdl:decide ((k:Int) < (m:Int)) = true:=decide_eq_true hkI
   have hb:=numV_bd xs k (fun x hx=>hall x (List.mem_of_mem_take hx)) (by omega) (by omega)
   have hb2:=numV_bd xs (k + 1) (fun x hx=>hall x (List.mem_of_mem_take hx)) (by omega) (by omega)
   have hstep:numV 0 (xs.take (k + 1)) = 10 * numV 0 (xs.take k) + (xs.getD k 0 - 48):=by
    rw [List.take_succ_eq_append_getElem (by omega),numV_snoc,List.getD_eq_getElem?_getD,List.getElem?_eq_getElem (by omega)];rfl
   have hd:48 ≤ xs.getD k 0 ∧ xs.getD k 0 ≤ 57:=by
    have:=hall xs[k] (List.getElem_mem (by omega))
    unfold digitB at this
    rw [List.getD_eq_getElem?_getD,List.getElem?_eq_getElem (by omega)]
    simpa using this
   have HIk:=Lib.hid (HI.out k hlt)
   generalize xs.getD k 0 = ck at *
   generalize numV 0 (xs.take k) = vk at *
   have hw1:IntKind.u8.wrap (ck - 48) = ck - 48:=by simp [IntKind.wrap,IntKind.bits,IntKind.signed];omega
   have hgt:decide (1099511627776 < 10 * vk + (ck - 48)) = false:=decide_eq_false (by omega)
   have HST:=Lib.hid hstep
   clear hstep hall
   have hIk:=HIk.out
   go_wp2_with fail
   go_roundw
   case rel=>exact ⟨k + 1,by omega,by simp,by rw [HST.out],by simp⟩
   case measure=>simp [intOf];omega
  ·have hkm:k = m:=by omega
   subst hkm
   have hx:xs.take k = xs:=by rw [← hlen];exact List.take_length
   rw [hx]
   have HA:=Lib.hid (HADD.out wr (numV 0 xs) h2)
   have F2:=Lib.hid f2
   clear hall hx HADD HI f2 h2 hlen
   generalize hv:numV 0 xs = v at *
   have HV:=Lib.hid hv
   clear hv
   go_wp2_with (go_at_call 170;refine HA.out.mono ?_;rintro e w3 ⟨rfl,so3,h3,f3⟩)
   go_ret
   exact ⟨rfl,so3,by rw [HV.out];exact h3,F2.out.trans f3 (fun q _ e=>.inl e) (fun q _ e=>e)⟩
end
section
open Go.RowKit
section
variable {base:Nat} {w:World} {r b c:Nat} {bs:List Int} {st:Rdr} {so:Value}
theorem drop_cons {bs:List Int} {k:Nat} {x:Int} {l:List Int} (h:bs.drop k = x :: l):∃ hk:k < bs.length,bs[k] = x:=by
 have hk:k < bs.length:=by
  rcases Nat.lt_or_ge k bs.length with h' | h'
  ·exact h'
  ·rw [List.drop_of_length_le h'] at h;cases h
 refine ⟨hk,?_⟩
 rw [List.drop_eq_getElem_cons hk] at h
 exact (List.cons.inj h).1
theorem quiet_reg {w:World} {dq:Nat} {osq:Array Obj} (h:RdW base w r b c bs st so):RdW base (Sort.grow (redrawn w dq) osq) r b c bs st so:=h.below (below_regrown w dq osq)
theorem next_word (h:RdW base w r b c bs st so) (hn:st.out.length ≤ 1000) (hbs:bs.length ≤ 1000) (hcol:0 ≤ st.col) (hcol2:st.col ≤ 100000) {x:Int} {l:List Int} (hd:bs.drop st.at_ = x :: l) (hx:smallB x = true) (hend:st.at_ + runL inWordB (x :: l) < bs.length) :
  Calls Tryz.prog 169 #[.pointer (some ⟨r,0,none⟩)] w fun e w'=>e = .returned (.int .i64 0) ∧ ∃ so',RdW base w' r b c bs ⟨st.at_ + runL inWordB (x :: l),st.line,st.col + (runL inWordB (x :: l):Nat),st.out ++ [⟨1,(x :: l).take (runL inWordB (x :: l)),0,st.line,st.col⟩]⟩ so' ∧ Fr (fun q=>q = r ∨ base ≤ q) w w':=by
 have hm:Tryz.prog.follows .mixedOrders = true:=by kernel_rfl
 obtain ⟨hk,hkx⟩:=drop_cons hd
 have hpos:0 < runL inWordB (x :: l):=by
  show 0 < (if inWordB x then runL inWordB l + 1 else 0)
  rw [if_pos (by unfold inWordB;rw [hx];rfl)];omega
 have HT:Hid (∀ w,RdW base w r b c bs st so → _):=fun (w:World) (h:RdW base w r b c bs st so)=>take_is 199 inWordB inWord_is (fun x w=>by go_simp) h hbs (by rw [hd];exact hpos) (by rw [hd];exact hend) hcol hcol2
 rw [hd] at HT
 have hby:=h.by_ st.at_ hk
 rw [hkx] at hby
 have HSM:=Lib.hid (small_is x)
 rw [hx] at HSM
 generalize hmm:runL inWordB (x :: l) = m at *
 generalize hxs:(x :: l).take m = xs at *
 obtain ⟨at_,line,col,out⟩:=st
 simp only at *
 have HADD:=Lib.hid (fun (w':World) (hh:RdW base w' r b c bs ⟨at_ + m,line,col + (m:Nat),out⟩ so)=>add_is 1 xs 0 col hh hn)
 have k0:=fun d os=>cell_regrown h.c0 d os
 have k1:=fun d os=>cell_regrown h.c1 d os
 have k3:=h.c3
 have kb:=fun d os=>cell_regrown hby d os
 simp only [Nat.zero_add] at k1 k3 kb
 have hkI:(at_:Int) < (bs.length:Int):=by omega
 have hk0:(0:Int) ≤ (at_:Int):=by omega
 have HR:=Lib.hid (fun dq osq=>quiet_reg (dq:=dq) (osq:=osq) h)
 have HB:=Lib.hid (fun dq osq=>below_regrown w dq osq)
 clear h hby hd hkx hxs hmm
 go_enter Tryz.func169,Tryz.ntmps169
 go_wp2_with fail
 refine wp_region_quiet_below hm (by kernel_rfl) ?_
 repeat (quiet_step (fail))
 refine wpQuiet_nil ?_
 intro _ hw'
 obtain ⟨⟨dq,osq⟩,hw''⟩:=hw'
 subst hw''
 have H2:=Lib.hid (HT.out _ (HR.out dq osq))
 have HB2:=Lib.hid (HB.out dq osq)
 clear HT HR HB k0 k1 k3 kb
 go_wp2_with (first | (go_at_call 197;refine (HSM.out _).mono ?_;rintro e w2 ⟨rfl,rfl⟩) | (go_at_call 198;refine H2.out.mono ?_;rintro e w3 ⟨rfl,h3,f3⟩;have HA:=Lib.hid (HADD.out _ h3)) | (go_at_call 170;refine HA.out.mono ?_;rintro e w4 ⟨rfl,so4,h4,f4⟩))
 go_ret
 exact ⟨rfl,so4,h4,(Fr.of_below (S:=fun _=>False) HB2.out).trans (f3.trans f4 (fun q _ e=>.inl e) (fun q _ e=>e)) (fun _ _ e=>e.elim) (fun _ _ e=>e)⟩
theorem next_num (h:RdW base w r b c bs st so) (hn:st.out.length ≤ 1000) (hbs:bs.length ≤ 1000) (hcol:0 ≤ st.col) (hcol2:st.col ≤ 100000) {x:Int} {l:List Int} (hd:bs.drop st.at_ = x :: l) (hx:smallB x = false) (hx2:digitB x = true) (h3:runL digitB (x :: l) ≤ 3) (hend:st.at_ + runL digitB (x :: l) < bs.length) :
  Calls Tryz.prog 169 #[.pointer (some ⟨r,0,none⟩)] w fun e w'=>e = .returned (.int .i64 0) ∧ ∃ so',RdW base w' r b c bs ⟨st.at_ + runL digitB (x :: l),st.line,st.col + (runL digitB (x :: l):Nat),st.out ++ [⟨2,(x :: l).take (runL digitB (x :: l)),numV 0 ((x :: l).take (runL digitB (x :: l))),st.line,st.col⟩]⟩ so' ∧ Fr (fun q=>q = r ∨ base ≤ q) w w':=by
 have hm:Tryz.prog.follows .mixedOrders = true:=by kernel_rfl
 obtain ⟨hk,hkx⟩:=drop_cons hd
 have hpos:0 < runL digitB (x :: l):=by
  show 0 < (if digitB x then runL digitB l + 1 else 0)
  rw [if_pos hx2];omega
 have HT:Hid (∀ w,RdW base w r b c bs st so → _):=fun (w:World) (h:RdW base w r b c bs st so)=>numb_is h hn hbs (by rw [hd];exact hpos) (by rw [hd];exact hend) (by rw [hd];exact h3) hcol hcol2
 rw [hd] at HT
 have hby:=h.by_ st.at_ hk
 rw [hkx] at hby
 have HSM:=Lib.hid (small_is x)
 rw [hx] at HSM
 have HDG:=Lib.hid (digit_is x)
 rw [hx2] at HDG
 generalize hmm:runL digitB (x :: l) = m at *
 generalize hxs:(x :: l).take m = xs at *
 obtain ⟨at_,line,col,out⟩:=st
 simp only at *
 have k0:=fun d os=>cell_regrown h.c0 d os
 have k1:=fun d os=>cell_regrown h.c1 d os
 have k3:=h.c3
 have kb:=fun d os=>cell_regrown hby d os
 simp only [Nat.zero_add] at k1 k3 kb
 have hkI:(at_:Int) < (bs.length:Int):=by omega
 have hk0:(0:Int) ≤ (at_:Int):=by omega
 have HR:=Lib.hid (fun dq osq=>quiet_reg (dq:=dq) (osq:=osq) h)
 have HB:=Lib.hid (fun dq osq=>below_regrown w dq osq)
 clear h hby hd hkx hxs hmm
 go_enter Tryz.func169,Tryz.ntmps169
 go_wp2_with fail
 refine wp_region_quiet_below hm (by kernel_rfl) ?_
 repeat (quiet_step (fail))
 refine wpQuiet_nil ?_
 intro _ hw'
 obtain ⟨⟨dq,osq⟩,hw''⟩:=hw'
 subst hw''
 have H2:=Lib.hid (HT.out _ (HR.out dq osq))
 have HB2:=Lib.hid (HB.out dq osq)
 clear HT HR HB k0 k1 k3 kb
 go_wp2_with (first | (go_at_call 197;refine (HSM.out _).mono ?_;rintro e w2 ⟨rfl,rfl⟩) | (go_at_call 200;refine (HDG.out _).mono ?_;rintro e w2 ⟨rfl,rfl⟩) | (go_at_call 201;refine H2.out.mono ?_;rintro e w3 ⟨rfl,so4,h4,f4⟩))
 go_ret
 exact ⟨rfl,so4,h4,(Fr.of_below (S:=fun _=>False) HB2.out).trans f4 (fun _ _ e=>e.elim) (fun _ _ e=>e)⟩
theorem next_line (h:RdW base w r b c bs st so) (hn:st.out.length ≤ 1000) (hbs:bs.length ≤ 1000) (hln:0 ≤ st.line) (hln2:st.line ≤ 100000) {l:List Int} (hd:bs.drop st.at_ = 10 :: l) :
  Calls Tryz.prog 169 #[.pointer (some ⟨r,0,none⟩)] w fun e w'=>e = .returned (.int .i64 0) ∧ ∃ so',RdW base w' r b c bs ⟨st.at_ + 1,st.line + 1,1,st.out ++ [⟨3,[],0,st.line,st.col⟩]⟩ so' ∧ Fr (fun q=>q = r ∨ base ≤ q) w w':=by
 have hm:Tryz.prog.follows .mixedOrders = true:=by kernel_rfl
 obtain ⟨hk,hkx⟩:=drop_cons hd
 have hkI:(st.at_:Int) < (bs.length:Int):=by omega
 have hby:=h.by_ st.at_ hk
 rw [hkx] at hby
 have HSM:=Lib.hid (small_is 10)
 rw [show smallB 10 = false from rfl] at HSM
 have HDG:=Lib.hid (digit_is 10)
 rw [show digitB 10 = false from rfl] at HDG
 obtain ⟨at_,line,col,out⟩:=st
 simp only at *
 have HADD:Hid (∀ (w':World),RdW base w' r b c bs ⟨at_,line,col,out⟩ so → Calls Tryz.prog 170 #[.pointer (some ⟨r,0,none⟩),.int .i64 3,.string ⟨#[]⟩,.int .i64 0,.int .i64 col] w' _):=fun (w':World) (hh:RdW base w' r b c bs ⟨at_,line,col,out⟩ so)=>add_is 3 [] 0 col hh hn
 have k0:=fun d os=>cell_regrown h.c0 d os
 have k1:=fun d os=>cell_regrown h.c1 d os
 have k3:=h.c3
 have kb:=fun d os=>cell_regrown hby d os
 simp only [Nat.zero_add] at k1 k3 kb
 have hk0:(0:Int) ≤ (at_:Int):=by omega
 have HR:=Lib.hid (fun dq osq=>quiet_reg (dq:=dq) (osq:=osq) h)
 have HB:=Lib.hid (fun dq osq=>below_regrown w dq osq)
 clear h hby hd hkx
 go_enter Tryz.func169,Tryz.ntmps169
 go_wp2_with fail
 refine wp_region_quiet_below hm (by kernel_rfl) ?_
 repeat (quiet_step (fail))
 refine wpQuiet_nil ?_
 intro _ hw'
 obtain ⟨⟨dq,osq⟩,hw''⟩:=hw'
 subst hw''
 have H2:=Lib.hid (HADD.out _ (HR.out dq osq))
 have HB2:=Lib.hid (HB.out dq osq)
 clear HADD HR HB k0 k1 k3 kb
 go_wp2_with (first | (go_at_call 197;refine (HSM.out _).mono ?_;rintro e w2 ⟨rfl,rfl⟩) | (go_at_call 200;refine (HDG.out _).mono ?_;rintro e w2 ⟨rfl,rfl⟩) | (go_at_call 170;refine H2.out.mono ?_;rintro e w3 ⟨rfl,so4,h4,f4⟩))
 have F4:=Lib.hid ((Fr.of_below (S:=fun _=>False) HB2.out).trans f4 (U:=fun q=>q = r ∨ base ≤ q) (fun _ _ e=>e.elim) (fun _ _ e=>e))
 clear H2 HB2 f4
 have c1:=h4.c1
 have c2:=h4.c2
 have c3:=h4.c3
 have z1:=h4.fz 1
 have z2:=h4.fz 2
 have z3:=h4.fz 3
 simp only at c1 c2 c3
 have H4:=Lib.hid h4
 clear h4
 go_region
 have S1:=H4.out.set 1 (.int .i64 ((at_:Int) + 1)) ⟨at_ + 1,line,col,out ++ [⟨3,[],0,line,col⟩]⟩ rfl (by rw [World.cell?_setCell_same _ _ _ c1];simp) (by rw [World.cell?_setCell_other _ _ _ _ (addr_ne (by omega))];exact c2) (by rw [World.cell?_setCell_other _ _ _ _ (addr_ne (by omega))];exact c3) (by omega) (by omega)
 have S2:=S1.set 2 (.int .i64 (line + 1)) ⟨at_ + 1,line + 1,col,out ++ [⟨3,[],0,line,col⟩]⟩ rfl (by rw [World.cell?_setCell_other _ _ _ _ (addr_ne (by omega))];exact S1.c1) (by rw [World.cell?_setCell_same _ _ _ S1.c2]) (by rw [World.cell?_setCell_other _ _ _ _ (addr_ne (by omega))];exact S1.c3) (by omega) (by omega)
 have S3:=S2.set 3 (.int .i64 1) ⟨at_ + 1,line + 1,1,out ++ [⟨3,[],0,line,col⟩]⟩ rfl (by rw [World.cell?_setCell_other _ _ _ _ (addr_ne (by omega))];exact S2.c1) (by rw [World.cell?_setCell_other _ _ _ _ (addr_ne (by omega))];exact S2.c2) (by rw [World.cell?_setCell_same _ _ _ S2.c3]) (by omega) (by omega)
 have SF:=Lib.hid (S3.below (bel_drew (Below.refl _ _)))
 have FF:=Lib.hid ((((F4.out.setCell (p:=⟨r,1,none⟩) (.inl rfl) (.int .i64 ((at_:Int) + 1))).setCell (p:=⟨r,2,none⟩) (.inl rfl) (.int .i64 (line + 1))).setCell (p:=⟨r,3,none⟩) (.inl rfl) (.int .i64 1)).drew)
 clear S1 S2 S3 c1 c2 c3 z1 z2 z3 H4 F4
 generalize (((w3.setCell ⟨r,1,none⟩ (.int .i64 ((at_:Int) + 1))).setCell ⟨r,2,none⟩ (.int .i64 (line + 1))).setCell ⟨r,3,none⟩ (.int .i64 1)).drew = w5 at SF FF ⊢
 go_wp2_with fail
 go_ret
 exact ⟨rfl,so4,SF.out,FF.out⟩
theorem next_space (h:RdW base w r b c bs st so) (hn:st.out.length ≤ 1000) (hbs:bs.length ≤ 1000) (hcol:0 ≤ st.col) (hcol2:st.col ≤ 100000) {l:List Int} (hd:bs.drop st.at_ = 32 :: l) :
  Calls Tryz.prog 169 #[.pointer (some ⟨r,0,none⟩)] w fun e w'=>e = .returned (.int .i64 0) ∧ ∃ so',RdW base w' r b c bs ⟨st.at_ + 1,st.line,st.col + 1,st.out⟩ so' ∧ Fr (fun q=>q = r ∨ base ≤ q) w w':=by
 have hm:Tryz.prog.follows .mixedOrders = true:=by kernel_rfl
 obtain ⟨hk,hkx⟩:=drop_cons hd
 have hkI:(st.at_:Int) < (bs.length:Int):=by omega
 have hby:=h.by_ st.at_ hk
 rw [hkx] at hby
 have HSM:=Lib.hid (small_is 32)
 rw [show smallB 32 = false from rfl] at HSM
 have HDG:=Lib.hid (digit_is 32)
 rw [show digitB 32 = false from rfl] at HDG
 obtain ⟨at_,line,col,out⟩:=st
 simp only at *
 have k0:=fun d os=>cell_regrown h.c0 d os
 have k1:=fun d os=>cell_regrown h.c1 d os
 have k3:=h.c3
 have kb:=fun d os=>cell_regrown hby d os
 simp only [Nat.zero_add] at k1 k3 kb
 have hk0:(0:Int) ≤ (at_:Int):=by omega
 have HR:=Lib.hid (fun dq osq=>quiet_reg (dq:=dq) (osq:=osq) h)
 have HB:=Lib.hid (fun dq osq=>below_regrown w dq osq)
 clear h hby hd hkx
 go_enter Tryz.func169,Tryz.ntmps169
 go_wp2_with fail
 refine wp_region_quiet_below hm (by kernel_rfl) ?_
 repeat (quiet_step (fail))
 refine wpQuiet_nil ?_
 intro _ hw'
 obtain ⟨⟨dq,osq⟩,hw''⟩:=hw'
 subst hw''
 have h4:=HR.out dq osq
 have F4:=Lib.hid ((Fr.of_below (S:=fun q=>q = r ∨ base ≤ q) (HB.out dq osq)))
 clear HR HB k0 k1 k3 kb
 generalize Sort.grow (redrawn w dq) osq = w3 at h4 F4 ⊢
 go_wp2_with (first | (go_at_call 197;refine (HSM.out _).mono ?_;rintro e w2 ⟨rfl,h22⟩;have h23:=h22.symm;subst h23) | (go_at_call 200;refine (HDG.out _).mono ?_;rintro e w2 ⟨rfl,h22⟩;have h23:=h22.symm;subst h23))
 have c1:=h4.c1
 have c2:=h4.c2
 have c3:=h4.c3
 have z1:=h4.fz 1
 have z3:=h4.fz 3
 simp only at c1 c2 c3
 have H4:=Lib.hid h4
 clear h4
 go_region
 have S1:=H4.out.set 1 (.int .i64 ((at_:Int) + 1)) ⟨at_ + 1,line,col,out⟩ rfl (by rw [World.cell?_setCell_same _ _ _ c1];simp) (by rw [World.cell?_setCell_other _ _ _ _ (addr_ne (by omega))];exact c2) (by rw [World.cell?_setCell_other _ _ _ _ (addr_ne (by omega))];exact c3) (by omega) (by omega)
 have S3:=S1.set 3 (.int .i64 (col + 1)) ⟨at_ + 1,line,col + 1,out⟩ rfl (by rw [World.cell?_setCell_other _ _ _ _ (addr_ne (by omega))];exact S1.c1) (by rw [World.cell?_setCell_other _ _ _ _ (addr_ne (by omega))];exact S1.c2) (by rw [World.cell?_setCell_same _ _ _ S1.c3]) (by omega) (by omega)
 have SF:=Lib.hid (S3.below (bel_drew (Below.refl _ _)))
 have FF:=Lib.hid (((F4.out.setCell (p:=⟨r,1,none⟩) (.inl rfl) (.int .i64 ((at_:Int) + 1))).setCell (p:=⟨r,3,none⟩) (.inl rfl) (.int .i64 (col + 1))).drew)
 clear S1 S3 c1 c2 c3 z1 z3 H4 F4
 generalize ((w3.setCell ⟨r,1,none⟩ (.int .i64 ((at_:Int) + 1))).setCell ⟨r,3,none⟩ (.int .i64 (col + 1))).drew = w5 at SF FF ⊢
 go_wp2_with fail
 go_ret
 exact ⟨rfl,so,SF.out,FF.out⟩
end
end
section
open Go.RowKit
structure RdOk (bs:List Int) (st:Rdr):Prop where
 a:st.at_ ≤ bs.length
 o:st.out.length ≤ st.at_
 l1:1 ≤ st.line
 l2:st.line ≤ st.at_ + 1
 c1:1 ≤ st.col
 c2:st.col ≤ st.at_ + 1
theorem lex_ok {bs:List Int} {st st':Rdr} (h:RdOk bs st) (hs:lexStep bs st = some st'):RdOk bs st' ∧ st.at_ < st'.at_:=by
 obtain ⟨h1,h2,h3,h4,h5,h6⟩:=h
 unfold lexStep at hs
 split at hs
 ·cases hs
 ·rename_i x l hd
  obtain ⟨hk,hkx⟩:=drop_cons hd
  split at hs
  ·rename_i hx
   have hpos:0 < runL inWordB (x :: l):=by
    show 0 < (if inWordB x then runL inWordB l + 1 else 0)
    rw [if_pos (by unfold inWordB;rw [hx];rfl)];omega
   split at hs
   ·rename_i he
    cases hs
    exact ⟨⟨by simp only;omega,by simp only [List.length_append,List.length_cons,List.length_nil];omega,h3,by simp only;omega,by simp only;omega,by simp only;omega⟩,by simp only;omega⟩
   ·cases hs
  ·split at hs
   ·rename_i hx hx2
    have hpos:0 < runL digitB (x :: l):=by
     show 0 < (if digitB x then runL digitB l + 1 else 0)
     rw [if_pos hx2];omega
    split at hs
    ·rename_i he
     cases hs
     exact ⟨⟨by simp only;omega,by simp only [List.length_append,List.length_cons,List.length_nil];omega,h3,by simp only;omega,by simp only;omega,by simp only;omega⟩,by simp only;omega⟩
    ·cases hs
   ·split at hs
    ·cases hs
     exact ⟨⟨by simp only;omega,by simp only [List.length_append,List.length_cons,List.length_nil];omega,by simp only;omega,by simp only;omega,by simp only;omega,by simp only;omega⟩,by simp only;omega⟩
    ·split at hs
     ·cases hs
      exact ⟨⟨by simp only;omega,by simp only;omega,h3,by simp only;omega,by simp only;omega,by simp only;omega⟩,by simp only;omega⟩
     ·cases hs
theorem next_is {base:Nat} {w:World} {r b c:Nat} {bs:List Int} {st st':Rdr} {so:Value} (h:RdW base w r b c bs st so) (ok:RdOk bs st) (hbs:bs.length ≤ 1000) (hs:lexStep bs st = some st') :
  Calls Tryz.prog 169 #[.pointer (some ⟨r,0,none⟩)] w fun e w'=>e = .returned (.int .i64 0) ∧ ∃ so',RdW base w' r b c bs st' so' ∧ Fr (fun q=>q = r ∨ base ≤ q) w w':=by
 obtain ⟨h1,h2,h3,h4,h5,h6⟩:=ok
 unfold lexStep at hs
 split at hs
 ·cases hs
 ·rename_i x l hd
  split at hs
  ·rename_i hx
   split at hs
   ·rename_i he
    cases hs
    exact next_word h (by omega) hbs (by omega) (by omega) hd hx he
   ·cases hs
  ·rename_i hx
   have hx':smallB x = false:=by simpa using hx
   split at hs
   ·rename_i hx2
    split at hs
    ·rename_i he
     cases hs
     exact next_num h (by omega) hbs (by omega) (by omega) hd hx' hx2 he.1 he.2
    ·cases hs
   ·split at hs
    ·rename_i hx3
     cases hs
     subst hx3
     exact next_line h (by omega) hbs (by omega) (by omega) hd
    ·split at hs
     ·rename_i hx3
      cases hs
      subst hx3
      exact next_space h (by omega) hbs (by omega) (by omega) hd
     ·cases hs
theorem res_tmp_cell {P:Program} {fn:Func} {p z:Tmp} {ty:TypeId} (h:fn.results = #[.tmp z,.cell p ty]) (tmps:Array Value) (w:World) (b:Nat) (cs:List Value) (d:TypeDesc) (hp:tmps.getD p undef = .pointer (some ⟨b,0,none⟩))
  (hc:w.rangeAt b 0 cs) (hu:P.underlying ty = some d) (hd:d.isRow = true) (hi:(P.info? ty).map (·.size) = some cs.length):(results fn tmps).run P w = .ok (.tuple #[tmps.getD z undef,.agg cs.toArray]) w:=by
 have hp':tmps[p]?.getD undef = .pointer (some ⟨b,0,none⟩):=by rw [← hp];simp
 unfold results
 rw [h]
 simp [Sem.run_bind,hp',asAddr,run_loadVar_mid w b 0 ty cs d hc hu hd hi]
theorem Tryz.size130:(Tryz.prog.info? 130).map (·.size) = some 3:=by kernel_rfl
theorem setz3 (w:World) (b:Nat) {u0 u1 u2:Value} (h0:w.cell? ⟨b,0,none⟩ = some u0) (h1:w.cell? ⟨b,1,none⟩ = some u1) (h2:w.cell? ⟨b,2,none⟩ = some u2) :
  (((w.setCell ⟨b,0,none⟩ (.int .i64 0)).setCell ⟨b,1,none⟩ (.int .i64 0)).setCell ⟨b,2,none⟩ (.int .i64 0)).rangeAt b 0 [.int .i64 0,.int .i64 0,.int .i64 0] ∧
   Fr (· = b) w (((w.setCell ⟨b,0,none⟩ (.int .i64 0)).setCell ⟨b,1,none⟩ (.int .i64 0)).setCell ⟨b,2,none⟩ (.int .i64 0)):=by
 refine ⟨?_,(((Fr.refl (· = b) w).setCell (p:=⟨b,0,none⟩) rfl _).setCell (p:=⟨b,1,none⟩) rfl _).setCell (p:=⟨b,2,none⟩) rfl _⟩
 have n01:(⟨b,0,none⟩:Addr) ≠ ⟨b,1,none⟩:=addr_ne (by omega)
 have n02:(⟨b,0,none⟩:Addr) ≠ ⟨b,2,none⟩:=addr_ne (by omega)
 have n12:(⟨b,1,none⟩:Addr) ≠ ⟨b,2,none⟩:=addr_ne (by omega)
 have c0:(w.setCell ⟨b,0,none⟩ (.int .i64 0)).cell? ⟨b,0,none⟩ = some (.int .i64 0):=World.cell?_setCell_same _ _ _ h0
 have c1:(w.setCell ⟨b,0,none⟩ (.int .i64 0)).cell? ⟨b,1,none⟩ = some u1:=by rw [World.cell?_setCell_other _ _ _ _ n01];exact h1
 have c2:(w.setCell ⟨b,0,none⟩ (.int .i64 0)).cell? ⟨b,2,none⟩ = some u2:=by rw [World.cell?_setCell_other _ _ _ _ n02];exact h2
 generalize w.setCell ⟨b,0,none⟩ (.int .i64 0) = wa at *
 have d0:(wa.setCell ⟨b,1,none⟩ (.int .i64 0)).cell? ⟨b,0,none⟩ = some (.int .i64 0):=by rw [World.cell?_setCell_other _ _ _ _ (Ne.symm n01)];exact c0
 have d1:(wa.setCell ⟨b,1,none⟩ (.int .i64 0)).cell? ⟨b,1,none⟩ = some (.int .i64 0):=World.cell?_setCell_same _ _ _ c1
 have d2:(wa.setCell ⟨b,1,none⟩ (.int .i64 0)).cell? ⟨b,2,none⟩ = some u2:=by rw [World.cell?_setCell_other _ _ _ _ n12];exact c2
 generalize wa.setCell ⟨b,1,none⟩ (.int .i64 0) = wc at *
 intro j u hu
 rw [Nat.zero_add]
 match j,hu with
 | 0,hu=>cases hu;rw [World.cell?_setCell_other _ _ _ _ (Ne.symm n02)];exact d0
 | 1,hu=>cases hu;rw [World.cell?_setCell_other _ _ _ _ (Ne.symm n12)];exact d1
 | 2,hu=>cases hu;exact World.cell?_setCell_same _ _ _ d2
 | j + 3,hu=>simp at hu
theorem tokens_is {w:World} {b c f:Nat} {bs:List Int} {toks:List Tok} (hb:BytesIn w b 0 bs) (hbl:b < w.heap.size) (hcap:bs.length ≤ c) (hbs:bs.length ≤ 900) (hl:lexAll bs f ⟨0,1,1,[]⟩ = some toks) :
  Calls Tryz.prog 126 #[.slice (some ⟨b,0,none⟩) bs.length c] w fun e w'=>∃ v,e = .returned (.tuple #[v,.agg #[.int .i64 0,.int .i64 0,.int .i64 0]]) ∧ w'.ownsRow w.heap.size 233 5 v toks.length (toks.flatMap tokc) ∧ toks.length ≤ 1000 ∧ Below w.heap.size w w':=by
 have hm:Tryz.prog.follows .mixedOrders = true:=by kernel_rfl
 have hb1:=bel_alloc (bel_alloc (Below.refl w.heap.size w) (.cells #[.int .i64 0,.int .i64 0,.int .i64 0] 130)) (.cells #[.slice (some ⟨b,0,none⟩) bs.length c,.int .i64 0,.int .i64 1,.int .i64 1,.slice none 0 0] 266)
 have hR:RdW (w.heap.size + 2) ((w.alloc (.cells #[.int .i64 0,.int .i64 0,.int .i64 0] 130)).alloc (.cells #[.slice (some ⟨b,0,none⟩) bs.length c,.int .i64 0,.int .i64 1,.int .i64 1,.slice none 0 0] 266)) (w.heap.size + 1) b c bs ⟨0,1,1,[]⟩ (.slice none 0 0) :=
  ⟨cell_newb _ _ _ _ 0 _ (by simp) rfl,cell_newb _ _ _ _ 1 _ (by simp) rfl,cell_newb _ _ _ _ 2 _ (by simp) rfl,cell_newb _ _ _ _ 3 _ (by simp) rfl,cell_newb _ _ _ _ 4 _ (by simp) rfl,World.ownsRow_nil _ _ _ _,fun o=>by simp,fun j hj=>cell_bel hb1 (hb j hj),by omega,by omega,by omega,by simp,hcap⟩
 have hbx:∀ j,j < 3 → ((w.alloc (.cells #[.int .i64 0,.int .i64 0,.int .i64 0] 130)).alloc (.cells #[.slice (some ⟨b,0,none⟩) bs.length c,.int .i64 0,.int .i64 1,.int .i64 1,.slice none 0 0] 266)).cell? ⟨w.heap.size,j,none⟩ = some (.int .i64 0):=fun j hj=>by
  rw [World.cell?_alloc_past _ _ _ (by simp)]
  exact cell_newb _ _ _ _ j _ rfl (by
   have:j = 0 ∨ j = 1 ∨ j = 2:=by omega
   rcases this with rfl | rfl | rfl <;> rfl)
 have hfz:∀ o,((w.alloc (.cells #[.int .i64 0,.int .i64 0,.int .i64 0] 130)).alloc (.cells #[.slice (some ⟨b,0,none⟩) bs.length c,.int .i64 0,.int .i64 1,.int .i64 1,.slice none 0 0] 266)).frozen? ⟨w.heap.size,o,none⟩ = false:=fun o=>by simp
 have HFZ:=Lib.hid hfz
 have HB1:=Lib.hid hb1
 have HBX:=Lib.hid hbx
 have HR:=Lib.hid hR
 have hsz1:((w.alloc (.cells #[.int .i64 0,.int .i64 0,.int .i64 0] 130)).alloc (.cells #[.slice (some ⟨b,0,none⟩) bs.length c,.int .i64 0,.int .i64 1,.int .i64 1,.slice none 0 0] 266)).heap.size = w.heap.size + 2:=by simp
 clear hb1 hR hb hbx hfz
 go_enter Tryz.func126,Tryz.ntmps126
 go_wp2_with fail
 generalize (w.alloc (.cells #[.int .i64 0,.int .i64 0,.int .i64 0] 130)).alloc (.cells #[.slice (some ⟨b,0,none⟩) bs.length c,.int .i64 0,.int .i64 1,.int .i64 1,.slice none 0 0] 266) = w1 at *
 generalize hwb:w.heap.size = wb at *
 go_loopw [] (fun wx=>Hid (∃ f st so,lexAll bs f st = some toks ∧ RdW (wb + 2) wx (wb + 1) b c bs st so ∧ RdOk bs st ∧ Fr (fun q=>q = wb + 1 ∨ wb + 2 ≤ q) w1 wx)) (fun wx=>bs.length - cellNat wx ⟨wb + 1,1,none⟩)
 case atStart=>exact ⟨f,_,_,hl,HR.out,⟨by simp,by simp,by simp,by simp,by simp,by simp⟩,Fr.refl _ _⟩
 case round =>
  obtain ⟨f2,st,so,hl2,HW,hok,hF⟩:=hrel.out
  cases f2 with
  | zero=>cases hl2
  | succ f2 =>
   have hk0:=HW.c0
   have hk1:=HW.c1
   have hk2:=HW.c2
   have hk3:=HW.c3
   have ha:=hok.a
   by_cases hlt:st.at_ < bs.length
   ·have hkI:(st.at_:Int) < (bs.length:Int):=by omega
    have hdl:decide ((st.at_:Int) < (bs.length:Int)) = true:=decide_eq_true hkI
    unfold lexAll at hl2
    rw [if_neg (by omega)] at hl2
    cases hs:lexStep bs st with
    | none=>rw [hs] at hl2;cases hl2
    | some st2 =>
     rw [hs] at hl2
     simp only at hl2
     obtain ⟨ok2,hat⟩:=lex_ok hok hs
     have kk2:=fun d os=>cell_regrown hk2 d os
     have kk3:=fun d os=>cell_regrown hk3 d os
     have HN:=Lib.hid (fun (dq:Nat) (osq:Array Obj)=>next_is (quiet_reg (dq:=dq) (osq:=osq) HW) hok (by omega) hs)
     have HL2:=Lib.hid hl2
     have HOK2:=Lib.hid ok2
     have HAT:=Lib.hid (And.intro hat hk1)
     have HF:=Lib.hid hF
     have HBR:=Lib.hid (below_regrown wr)
     clear hl2 hs ok2 hat hF hok hrel HW hk2 hk3
     go_wp2_with fail
     refine wp_region_quiet_below hm (by kernel_rfl) ?_
     repeat (quiet_step (fail))
     refine wpQuiet_nil ?_
     intro _ hw'
     obtain ⟨⟨dq,osq⟩,hw''⟩:=hw'
     subst hw''
     have HN2:=Lib.hid (HN.out dq osq)
     have HB2:=Lib.hid (HBR.out dq osq)
     clear HN HBR kk2 kk3 hk0 hk1
     go_wp2_with (go_at_call 169;refine HN2.out.mono ?_;rintro e w3 ⟨rfl,so3,h3,f3⟩)
     go_roundw
     case rel=>exact ⟨f2,st2,so3,HL2.out,h3,HOK2.out,HF.out.trans ((Fr.of_below (S:=fun _=>False) HB2.out).trans f3 (fun _ _ e=>e.elim) (fun _ _ e=>e)) (fun _ _ e=>e) (fun _ _ e=>e)⟩
     case measure =>
      have a1:=HAT.out.1
      have a2:=HOK2.out.a
      rw [cellNat_of (n:=st.at_) HAT.out.2,cellNat_of (n:=st2.at_) h3.c1]
      omega
   ·have hke:st.at_ = bs.length:=by omega
    rw [hke] at hk1
    have hdl:decide ((bs.length:Int) < (bs.length:Int)) = false:=decide_eq_false (by omega)
    unfold lexAll at hl2
    rw [if_pos (by omega)] at hl2
    cases hl2
    have ho:=hok.o
    have HADD:Hid (Calls Tryz.prog 170 #[.pointer (some ⟨wb + 1,0,none⟩),.int .i64 4,.string ⟨#[]⟩,.int .i64 0,.int .i64 st.col] wr _):=add_is 4 [] 0 st.col HW (by omega)
    have HF:=Lib.hid hF
    have HLN:Hid (st.out.length ≤ 999):=by
     have:=hok.o
     show _ ≤ _
     omega
    clear hok hrel HW hk2 hF ha ho
    go_wp2_with (go_at_call 170;refine HADD.out.mono ?_;rintro e w3 ⟨rfl,so3,h3,f3⟩;have q4:=h3.c4;have HF3:=Lib.hid (HF.out.trans f3 (U:=fun q=>q = wb + 1 ∨ wb + 2 ≤ q) (fun _ _ e=>e) (fun _ _ e=>e));have x0:=(HF3.out.cell (p:=⟨wb,0,none⟩) (by show wb < _;omega) (by show ¬ (wb = wb + 1 ∨ wb + 2 ≤ wb);omega)).trans (HBX.out 0 (by omega));have x1:=(HF3.out.cell (p:=⟨wb,1,none⟩) (by show wb < _;omega) (by show ¬ (wb = wb + 1 ∨ wb + 2 ≤ wb);omega)).trans (HBX.out 1 (by omega));have x2:=(HF3.out.cell (p:=⟨wb,2,none⟩) (by show wb < _;omega) (by show ¬ (wb = wb + 1 ∨ wb + 2 ≤ wb);omega)).trans (HBX.out 2 (by omega));have y0:=fun o=>(HF3.out.frozen (p:=⟨wb,o,none⟩) (by show wb < _;omega) (by show ¬ (wb = wb + 1 ∨ wb + 2 ≤ wb);omega)).trans (HFZ.out o))
    have G4:=setz3 w3 wb x0 x1 x2
    generalize ((w3.setCell ⟨wb,0,none⟩ (.int .i64 0)).setCell ⟨wb,1,none⟩ (.int .i64 0)).setCell ⟨wb,2,none⟩ (.int .i64 0) = w4 at G4 ⊢
    obtain ⟨g1,g2⟩:=G4
    have hF4:Fr (fun q=>q = wb ∨ q = wb + 1 ∨ wb + 2 ≤ q) w1 w4:=HF3.out.trans g2 (fun _ _ e=>.inr e) (fun _ _ e=>.inl e)
    refine bodyPost_ret (res_tmp_cell rfl _ _ wb _ _ rfl g1 Tryz.underlying130 rfl Tryz.size130) rfl ⟨so3,rfl,?_,by simp only [List.length_append,List.length_cons,List.length_nil];have:=HLN.out;omega,?_⟩
    ·rw [hwb]
     exact ownsRow_base (ownsRow_keep h3.own (fun k hk=>g2.block k (ownsRow_lt h3.own k hk) (fun e=>by have:=ownsRow_block h3.own k hk;omega))) (by omega)
    ·rw [hwb]
     exact HB1.out.trans (hF4.below (fun q _ e=>by omega) (by omega))
end
end Go.Proofs.YtnoahekcemfmcaaGreatDoor
