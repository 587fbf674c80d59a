/- Walks of package wal: segments. -/
import Derived.Test.YtgpgcnmnfnnkjaaDoorGStoreRuns30
import Derived.Test.YtgpgcnmnfnnkjaaDoorGStoreRuns21
set_option linter.unusedVariables false
set_option linter.unusedSimpArgs false
section
namespace Go.Proofs.YtgpgcnmnfnnkjaaDoor
open Go Go.RowKit Go.PlainAid BigFrame
theorem tIntsW : SlT Tryd.prog 41 3 1 8 := SlT.mk' (z := .int .i64 0) Tryd.underlying41 (by kernel_rfl) (by kernel_rfl) (by decide) (by decide)
theorem cutI {w : World} {B : Nat} {e : TypeId} {n : Nat} {v : Value} {l : List Int} (h : OwnR intsE w B e v l) (hn : n ≤ l.length) : ∃ p c, v = .slice p l.length c ∧ subV v 0 n 1 = .slice p n c ∧ OwnR intsE w B e (.slice p n c) (l.take n) := by
 have hl : (l.take n).length = n := by rw [List.length_take]; omega
 rcases Own.head h with ⟨rfl, h0⟩ | ⟨g, cap, rfl, _⟩
 · have hz : l = [] := List.length_eq_zero_iff.1 h0
   subst hz
   have : n = 0 := by simpa using hn
   subst this
   exact ⟨none, 0, rfl, rfl, OwnR.nil _ _ _⟩
 · refine ⟨some ⟨g, 0, none⟩, cap, rfl, ?_, ?_⟩
   · show Value.slice (subP _ _ _ _) _ _ = _
     have e1 : subP (some ⟨g, 0, none⟩) cap 0 1 = some ⟨g, 0, none⟩ := by
      unfold subP; split
      · rfl
      · simp [addr_add]
     rw [e1]; rfl
   · have h1 := Own.cut h n hn
     exact OwnR.of h1 hl.symm (intsE.all_take l n)
def natI (l : List Nat) : List Int := l.map fun (n : Nat) => (n : Int)
theorem natI_length (l : List Nat) : (natI l).length = l.length := by simp [natI]
theorem posR_le (out : List Nat) (n : Nat) : ∀ k, posR out n k ≤ k
 | 0 => Nat.le_refl _
 | k + 1 => by
  rw [posR]
  split
  · exact Nat.le_succ_of_le (posR_le out n k)
  · exact Nat.le_refl _
theorem digsW_lt : ∀ (l : List UInt8) (n k : Nat), n < 10 ^ k → digsW l n < 10 ^ (k + l.length)
 | [], n, k, h => by simpa [digsW] using h
 | c :: r, n, k, h => by
  rw [digsW]
  split
  · rename_i hb
    obtain ⟨q1, q2⟩ := (digB_iff c).1 hb
    have := digsW_lt r (10 * n + (c.toNat - 48)) (k + 1) (by rw [Nat.pow_succ]; omega)
    rw [List.length_cons, show k + (r.length + 1) = k + 1 + r.length from by omega]; exact this
  · exact Nat.pow_pos (by decide)
theorem numW_lt (s : ByteArray) : numW s < 100000000000000 := by
 unfold numW
 split
 · decide
 · rename_i h
   have hs : s.size ≤ 18 := by
    rcases Nat.lt_or_ge 18 s.size with h1 | h1
    · exact absurd (.inr (.inr (.inl h1))) h
    · exact h1
   have h2 := digsW_lt ((bytesOf s).drop 4) 0 0 (by decide)
   have h3 : ((bytesOf s).drop 4).length ≤ 14 := by rw [List.length_drop]; have : (bytesOf s).length = s.size := by simp [bytesOf]
                                                    omega
   have h4 : (10 : Nat) ^ (0 + ((bytesOf s).drop 4).length) ≤ 10 ^ 14 := Nat.pow_le_pow_right (by decide) (by omega)
   have h5 : (10 : Nat) ^ 14 = 100000000000000 := by decide
   omega
theorem walNumberS (s : ByteArray) (w : World) : Calls Tryd.prog 46 #[.string s] w fun e w' => e = .returned (.int .i64 (numW s : Nat)) ∧ Below w.heap.size w w' := walNumber s.data.toList w
theorem insW_length (out : List Nat) (n : Nat) : (insW out n).length = out.length + 1 := by
 have := posR_le out n out.length
 unfold insW; rw [List.length_append, List.length_take, List.length_cons, List.length_drop]; omega
theorem foldl_seg_len : ∀ (l : List ByteArray) (out : List Nat), (l.foldl segStep out).length ≤ out.length + l.length
 | [], out => by simp
 | s :: r, out => by
  rw [List.foldl_cons]
  have h1 := foldl_seg_len r (segStep out s)
  have h2 : (segStep out s).length ≤ out.length + 1 := by
   unfold segStep; split
   · omega
   · rw [insW_length]; exact Nat.le_refl _
  rw [List.length_cons]; omega
def SegsI (w : World) (d : Dk) (e : Ending) (w' : World) : Prop := ∃ r, e = .returned r ∧ OwnR intsE w' w.heap.size 3 r (natI (segsW (d.fs.map (·.name)))) ∧ Below w.heap.size w w'

set_option maxRecDepth 8000 in
set_option maxHeartbeats 4000000 in
theorem walSegments {w0 w : World} {X : Nat → Prop} {g : Nat} {d : Dk} (h : DwS w0 X g d w) (ok : okD d = true) :
 Calls Tryd.prog 24 #[.pointer (some ⟨g, 0, none⟩)] w (SegsI w d) := by
 have hlen := (okD_spec ok).2
 have hcall := lNames h ok
 have hseg : segsW (d.fs.map (·.name)) = (d.fs.map (·.name)).foldl segStep [] := rfl
 have Hseg := Lib.hid hseg
 have hln : (d.fs.map (·.name)).length ≤ 999999 := by simpa using hlen
 clear hseg hlen h ok
 unfold SegsI
 rw [Hseg.out]
 generalize d.fs.map (·.name) = N at *
 go_enter Tryd.func24, Tryd.ntmps24
 go_wp2_with fail
 refine hcall.mono ?_
 rintro e w1 ⟨⟨rn, rfl, ownN⟩, b1⟩
 have rN := ownN.rd
 obtain ⟨pn, cn, rfl⟩ := rN.shape
 clear ownN hcall Hseg
 have hs1 := b1.size
 go_wp2_with fail
 go_loopw [3, 11] (fun o i wr => ∃ k : Nat, k ≤ N.length ∧ i = .int .i64 k ∧ OwnR intsE wr w1.heap.size 3 o (natI ((N.take k).foldl segStep [])) ∧ Below w1.heap.size w1 wr) (fun _ i _ => N.length - (intOf i).toNat)
 case atStart => exact ⟨0, by omega, rfl, OwnR.nil _ _ _, Below.refl _ _⟩
 case round =>
  obtain ⟨k, hk, rfl, own, hbw⟩ := hrel
  by_cases hlt : k < N.length
  · have rNr := rN.ext hbw
    obtain ⟨bb, off, rfl⟩ := Rd.blk rNr (by omega)
    have c0 : wr.cell? ⟨bb, off + k, none⟩ = some (.string N[k]) := by have := rNr.at_ hlt 0 (by decide); simpa [strE] using this
    have hst : (N.take (k + 1)).foldl segStep [] = segStep ((N.take k).foldl segStep []) N[k] := by rw [List.take_succ_eq_append_getElem hlt, List.foldl_append]; rfl
    have hol := foldl_seg_len (N.take k) []
    rw [List.length_take, Nat.min_eq_left hk, List.length_nil] at hol
    have Hst := Lib.hid hst
    have hi : (k : Int) < (N.length : Int) := by omega
    have hi0 : (0 : Int) ≤ (k : Int) := by omega
    have hsz := hbw.size
    have hnum := numW_lt N[k]
    clear hst
    generalize N[k] = s at *
    generalize (N.take k).foldl segStep [] = out at *
    go_wp2_with fail
    refine (walNumberS s wr).mono ?_
    rintro e w2 ⟨rfl, b2⟩
    have own2 := own.ext b2
    have hb2 := hbw.trans (b2.mono hsz)
    obtain ⟨po, co, rfl⟩ := own2.rd.shape
    rw [natI_length] at own2 ⊢
    by_cases hz : numW s = 0
    · have hzi : (((numW s : Nat) : Int) == 0) = true := by rw [hz]; rfl
      have hss : segStep out s = out := if_pos hz
      have Hss := Lib.hid hss
      clear hss hz
      go_wp2_with fail
      go_roundw
      case rel => exact ⟨k + 1, by omega, by go_num, by rw [Hst.out, Hss.out]; unfold OwnR; rw [natI_length]; unfold OwnR at own2; rw [natI_length] at own2; exact own2, hb2⟩
      case measure => simp [intOf]; omega
    · have hzi : (((numW s : Nat) : Int) == 0) = false := by simp; exact hz
      have hss : segStep out s = insW out (numW s) := if_neg hz
      have Hss := Lib.hid hss
      clear hss hz
      generalize numW s = n at *
      go_wp2_with fail
      go_loopw [7] (fun q wi => ∃ j : Nat, j ≤ out.length ∧ q = .int .i64 j ∧ Hid (posR out n j = posR out n out.length) ∧ wi = w2) (fun q _ => (intOf q).toNat)
      case atStart => exact ⟨out.length, Nat.le_refl _, rfl, rfl, rfl⟩
      case round =>
       obtain ⟨j, hj, rfl, hpos, hw⟩ := hrel
       subst hw
       have hB := run_sub_from tIntsW (P := Tryd.prog) own2.rd .i64 (j : Int) j rfl (by rw [natI_length]; exact hj)
       have hA := run_sub_to tIntsW (P := Tryd.prog) own2.rd .i64 (j : Int) j rfl (by rw [natI_length]; exact hj)
       obtain ⟨pc, cc, hvc, hsub, hown⟩ := cutI own2 (n := j) (by rw [natI_length]; exact hj)
       have rB := own2.rd.sub j out.length hj (by rw [natI_length]; exact Nat.le_refl _)
       rw [hsub] at hA
       rw [natI_length] at hB hvc
       rw [show ((natI out).drop j).take (out.length - j) = (natI out).drop j from List.take_of_length_le (by rw [List.length_drop, natI_length]; exact Nat.le_refl _), show intsE.sz = 1 from rfl] at rB
       simp only [Value.slice.injEq, true_and] at hvc
       obtain ⟨rfl, rfl⟩ := hvc
       generalize subV (.slice po out.length co) j out.length 1 = vB at *
       rcases Nat.eq_zero_or_pos j with hj0 | hj0
       · subst hj0
         have hins : insW out n = out.take 0 ++ n :: out.drop 0 := by unfold insW; rw [← hpos.out]; rfl
         have Hins := Lib.hid hins
         clear hins
         rw [show ((0 : Nat) : Int) = 0 from rfl] at hA hB
         go_wp2_with fail
         refine wp_region_F (n := 10) (S := fun _ => True) (by kernel_rfl) ?_
         have hHeld : (fun _ : World => True) wr.drew := trivial
         refine wpAnyF_tk 0 _ _ _ (v := ?_) rfl (by kernel_rfl) (fun _ _ _ h => h) ?_ hHeld ?_
         rotate_left
         · intro w hSw
           try dsimp only at hSw
           dsimp only [bare]
           go_simp <;> with_reducible rfl
         try simp only [bare, Act.put, lyA, lyZ, lyS]
         refine wpAnyF_tk 1 _ _ _ (v := ?_) rfl (by kernel_rfl) (fun _ _ _ h => h) ?_ hHeld ?_
         rotate_left
         · intro w hSw
           try dsimp only at hSw
           dsimp only [bare]
           go_simp <;> with_reducible rfl
         try simp only [bare, Act.put, lyA, lyZ, lyS]
         refine wpAnyF_tk 2 _ _ _ (v := ?_) rfl (by kernel_rfl) (fun _ _ _ h => h) ?_ hHeld ?_
         rotate_left
         · intro w hSw
           try dsimp only at hSw
           dsimp only [bare]
           go_simp <;> with_reducible rfl
         try simp only [bare, Act.put, lyA, lyZ, lyS]
         refine wpAnyF_tk 3 _ _ _ (v := ?_) rfl (by kernel_rfl) (fun _ _ _ h => h) ?_ hHeld ?_
         rotate_left
         · intro w hSw
           try dsimp only at hSw
           dsimp only [bare]
           go_simp <;> with_reducible rfl
         try simp only [bare, Act.put, lyA, lyZ, lyS]
         refine wpAnyF_tk 5 _ _ _ (v := ?_) rfl (by kernel_rfl) (fun _ _ _ h => h) ?_ hHeld ?_
         rotate_left
         · intro w hSw
           try dsimp only at hSw
           dsimp only [bare]
           go_simp <;> with_reducible rfl
         try simp only [bare, Act.put, lyA, lyZ, lyS]
         refine wpAnyF_tk 6 _ _ _ (v := ?_) rfl (by kernel_rfl) (fun _ _ _ h => h) ?_ hHeld ?_
         rotate_left
         · intro w hSw
           try dsimp only at hSw
           dsimp only [bare]
           go_simp <;> with_reducible rfl
         try simp only [bare, Act.put, lyA, lyZ, lyS]
         refine wpAnyF_tk 7 _ _ _ (v := ?_) rfl (by kernel_rfl) (fun _ _ _ h => h) ?_ hHeld ?_
         rotate_left
         · intro w hSw
           try dsimp only at hSw
           dsimp only [bare]
           go_simp <;> with_reducible rfl
         try simp only [bare, Act.put, lyA, lyZ, lyS]
         refine wpAnyF_one 4 (some 38) (Op.buildSlice 41 1 #[(0, Operand.tmp 37)]) 41 rfl (by kernel_rfl) (fun K hK => ?_)
         dsimp only [bare]; go_simp
         obtain ⟨w8, hw8⟩ : ∃ z, z = (wr.alloc (.cells #[.int .i64 (n : Int)] 3)).drew := ⟨_, rfl⟩
         have bE : Below wr.heap.size wr w8 := by rw [hw8]; exact (below_alloc wr _).drew
         have hs8 := hb2.size
         have ownL : OwnR intsE w8 w1.heap.size 3 (.slice (some ⟨wr.heap.size, 0, none⟩) 1 1) [(n : Int)] := by rw [hw8]; exact ((OwnR.litAt intsE wr #[.int .i64 (n : Int)] 3 [(n : Int)] 1 w1.heap.size wr.heap.size rfl rfl rfl (by unfold maxLen; omega) hs8).drew)
         rw [← hw8]
         clear hw8
         refine hK _ _ trivial (fun hHeld => ?_)
         clear hK K
         try simp only [bare, Act.put, lyA, lyZ, lyS]
         refine wpAnyF_one 8 (some 42) (Op.call { callee := Callee.builtin Builtin.append, args := #[Operand.tmp 38, Operand.tmp 41], argTypes := #[41, 41] }) 41 rfl (by kernel_rfl) (fun K hK => ?_)
         have hdl : ((natI out).drop 0).length ≤ 999999 := by rw [List.length_drop, natI_length]; omega
         refine step_appR (E := intsE) (s := .tmp 38) (y := .tmp 41) (B := w1.heap.size) (l := [(n : Int)]) (m := (natI out).drop 0) tIntsW rfl rfl ownL (by simp [Act.eval, Act.put]) (rB.ext bE) (by simp [Act.eval, Act.put]) (by simp only [List.length_singleton]; omega) (Nat.le_trans hs8 bE.size) ?_
         intro v9 w9 own9 g9 b9
         have hown9 := (hown.ext bE).grown g9 (.inr (fun e => by have := (hown.lt wr.heap.size e).2; exact Nat.lt_irrefl _ this))
         have bF := (bE.mono hs8).trans b9
         refine hK _ _ trivial (fun hHeld => ?_)
         clear hK K
         try simp only [bare, Act.put, lyA, lyZ, lyS]
         refine wpAnyF_one 9 (some 43) (Op.call { callee := Callee.builtin Builtin.append, args := #[Operand.tmp 36, Operand.tmp 42], argTypes := #[41, 41] }) 41 rfl (by kernel_rfl) (fun K hK => ?_)
         have htl : ((natI out).take (0)).length ≤ 999999 := by rw [List.length_take, natI_length]; omega
         refine step_appR (E := intsE) (s := .tmp 36) (y := .tmp 42) (B := w1.heap.size) (l := (natI out).take (0)) (m := [(n : Int)] ++ (natI out).drop (0)) tIntsW rfl rfl hown9 (by simp [Act.eval, Act.put]) own9.rd (by simp [Act.eval, Act.put]) (by rw [List.length_append, List.length_singleton]; omega) (Nat.le_trans hs8 bF.size) ?_
         intro v10 w10 own10 g10 b10
         have bG := bF.trans b10
         refine hK _ _ trivial (fun hHeld => ?_)
         clear hK K
         try simp only [bare, Act.put, lyA, lyZ, lyS]
         refine wpAnyF_end (some 3) (Op.assign (Operand.tmp 43)) 41 rfl (by kernel_rfl) (by kernel_rfl) (fun K hK => ?_)
         dsimp only [bare]; go_simp
         refine hK _ _ ?_
         clear hK K
         try simp only [bare, Act.put, lyA, lyZ, lyS]
         have hni : natI (insW out n) = (natI out).take (0) ++ ([(n : Int)] ++ (natI out).drop (0)) := by rw [Hins.out]; unfold natI; rw [List.map_append, List.map_cons, List.map_take, List.map_drop]; rfl
         have Hni := Lib.hid hni
         clear hni
         go_wp2_with fail
         go_roundw
         case rel => exact ⟨k + 1, by omega, by go_num, by rw [Hst.out, Hss.out, Hni.out]; exact own10, hb2.trans bG⟩
         case measure => simp [intOf]; omega
       · obtain ⟨j', rfl⟩ : ∃ j', j = j' + 1 := ⟨j - 1, by omega⟩
         obtain ⟨bo, oo, rfl⟩ := Rd.blk own2.rd (by rw [natI_length]; omega)
         have hjl : j' < out.length := by omega
         have cj : wr.cell? ⟨bo, oo + j', none⟩ = some (.int .i64 (out[j'] : Nat)) := by
          have := own2.rd.at_ (k := j') (by rw [natI_length]; exact hjl) 0 (by decide)
          simpa [intsE, natI] using this
         have hgd : out.getD j' 0 = out[j'] := by rw [List.getD_eq_getElem?_getD, List.getElem?_eq_getElem hjl]; rfl
         rw [show ((j' + 1 : Nat) : Int) = (j' : Int) + 1 from rfl] at hA hB
         by_cases hgt : n < out[j']
         · have hpj : posR out n (j' + 1) = posR out n j' := by rw [posR, hgd, if_pos hgt]
           have hgi : (n : Int) < (out[j'] : Int) := by omega
           have Hpj := Lib.hid (hpj.symm.trans hpos.out)
           clear hpj hpos hgd
           generalize out[j'] = y at *
           go_wp2_with fail
           go_roundw
           case rel => exact ⟨j', by omega, by go_num, Hpj.out, by trivial⟩
           case measure => simp [intOf]
         · have hpj : posR out n (j' + 1) = j' + 1 := by rw [posR, hgd, if_neg hgt]
           have hins : insW out n = out.take (j' + 1) ++ n :: out.drop (j' + 1) := by unfold insW; rw [← hpos.out, hpj]
           have Hins := Lib.hid hins
           have hgi : ¬ (n : Int) < (out[j'] : Int) := by omega
           clear hins hpj hpos hgd
           generalize out[j'] = y at *
           go_wp2_with fail
           refine wp_region_F (n := 10) (S := fun _ => True) (by kernel_rfl) ?_
           have hHeld : (fun _ : World => True) wr.drew := trivial
           refine wpAnyF_tk 0 _ _ _ (v := ?_) rfl (by kernel_rfl) (fun _ _ _ h => h) ?_ hHeld ?_
           rotate_left
           · intro w hSw
             try dsimp only at hSw
             dsimp only [bare]
             go_simp <;> with_reducible rfl
           try simp only [bare, Act.put, lyA, lyZ, lyS]
           refine wpAnyF_tk 1 _ _ _ (v := ?_) rfl (by kernel_rfl) (fun _ _ _ h => h) ?_ hHeld ?_
           rotate_left
           · intro w hSw
             try dsimp only at hSw
             dsimp only [bare]
             go_simp <;> with_reducible rfl
           try simp only [bare, Act.put, lyA, lyZ, lyS]
           refine wpAnyF_tk 2 _ _ _ (v := ?_) rfl (by kernel_rfl) (fun _ _ _ h => h) ?_ hHeld ?_
           rotate_left
           · intro w hSw
             try dsimp only at hSw
             dsimp only [bare]
             go_simp <;> with_reducible rfl
           try simp only [bare, Act.put, lyA, lyZ, lyS]
           refine wpAnyF_tk 3 _ _ _ (v := ?_) rfl (by kernel_rfl) (fun _ _ _ h => h) ?_ hHeld ?_
           rotate_left
           · intro w hSw
             try dsimp only at hSw
             dsimp only [bare]
             go_simp <;> with_reducible rfl
           try simp only [bare, Act.put, lyA, lyZ, lyS]
           refine wpAnyF_tk 5 _ _ _ (v := ?_) rfl (by kernel_rfl) (fun _ _ _ h => h) ?_ hHeld ?_
           rotate_left
           · intro w hSw
             try dsimp only at hSw
             dsimp only [bare]
             go_simp <;> with_reducible rfl
           try simp only [bare, Act.put, lyA, lyZ, lyS]
           refine wpAnyF_tk 6 _ _ _ (v := ?_) rfl (by kernel_rfl) (fun _ _ _ h => h) ?_ hHeld ?_
           rotate_left
           · intro w hSw
             try dsimp only at hSw
             dsimp only [bare]
             go_simp <;> with_reducible rfl
           try simp only [bare, Act.put, lyA, lyZ, lyS]
           refine wpAnyF_tk 7 _ _ _ (v := ?_) rfl (by kernel_rfl) (fun _ _ _ h => h) ?_ hHeld ?_
           rotate_left
           · intro w hSw
             try dsimp only at hSw
             dsimp only [bare]
             go_simp <;> with_reducible rfl
           try simp only [bare, Act.put, lyA, lyZ, lyS]
           refine wpAnyF_one 4 (some 38) (Op.buildSlice 41 1 #[(0, Operand.tmp 37)]) 41 rfl (by kernel_rfl) (fun K hK => ?_)
           dsimp only [bare]; go_simp
           obtain ⟨w8, hw8⟩ : ∃ z, z = (wr.alloc (.cells #[.int .i64 (n : Int)] 3)).drew := ⟨_, rfl⟩
           have bE : Below wr.heap.size wr w8 := by rw [hw8]; exact (below_alloc wr _).drew
           have hs8 := hb2.size
           have ownL : OwnR intsE w8 w1.heap.size 3 (.slice (some ⟨wr.heap.size, 0, none⟩) 1 1) [(n : Int)] := by rw [hw8]; exact ((OwnR.litAt intsE wr #[.int .i64 (n : Int)] 3 [(n : Int)] 1 w1.heap.size wr.heap.size rfl rfl rfl (by unfold maxLen; omega) hs8).drew)
           rw [← hw8]
           clear hw8
           refine hK _ _ trivial (fun hHeld => ?_)
           clear hK K
           try simp only [bare, Act.put, lyA, lyZ, lyS]
           refine wpAnyF_one 8 (some 42) (Op.call { callee := Callee.builtin Builtin.append, args := #[Operand.tmp 38, Operand.tmp 41], argTypes := #[41, 41] }) 41 rfl (by kernel_rfl) (fun K hK => ?_)
           have hdl : ((natI out).drop (j' + 1)).length ≤ 999999 := by rw [List.length_drop, natI_length]; omega
           refine step_appR (E := intsE) (s := .tmp 38) (y := .tmp 41) (B := w1.heap.size) (l := [(n : Int)]) (m := (natI out).drop (j' + 1)) tIntsW rfl rfl ownL (by simp [Act.eval, Act.put]) (rB.ext bE) (by simp [Act.eval, Act.put]) (by simp only [List.length_singleton]; omega) (Nat.le_trans hs8 bE.size) ?_
           intro v9 w9 own9 g9 b9
           have hown9 := (hown.ext bE).grown g9 (.inr (fun e => by have := (hown.lt wr.heap.size e).2; exact Nat.lt_irrefl _ this))
           have bF := (bE.mono hs8).trans b9
           refine hK _ _ trivial (fun hHeld => ?_)
           clear hK K
           try simp only [bare, Act.put, lyA, lyZ, lyS]
           refine wpAnyF_one 9 (some 43) (Op.call { callee := Callee.builtin Builtin.append, args := #[Operand.tmp 36, Operand.tmp 42], argTypes := #[41, 41] }) 41 rfl (by kernel_rfl) (fun K hK => ?_)
           have htl : ((natI out).take ((j' + 1))).length ≤ 999999 := by rw [List.length_take, natI_length]; omega
           refine step_appR (E := intsE) (s := .tmp 36) (y := .tmp 42) (B := w1.heap.size) (l := (natI out).take ((j' + 1))) (m := [(n : Int)] ++ (natI out).drop ((j' + 1))) tIntsW rfl rfl hown9 (by simp [Act.eval, Act.put]) own9.rd (by simp [Act.eval, Act.put]) (by rw [List.length_append, List.length_singleton]; omega) (Nat.le_trans hs8 bF.size) ?_
           intro v10 w10 own10 g10 b10
           have bG := bF.trans b10
           refine hK _ _ trivial (fun hHeld => ?_)
           clear hK K
           try simp only [bare, Act.put, lyA, lyZ, lyS]
           refine wpAnyF_end (some 3) (Op.assign (Operand.tmp 43)) 41 rfl (by kernel_rfl) (by kernel_rfl) (fun K hK => ?_)
           dsimp only [bare]; go_simp
           refine hK _ _ ?_
           clear hK K
           try simp only [bare, Act.put, lyA, lyZ, lyS]
           have hni : natI (insW out n) = (natI out).take ((j' + 1)) ++ ([(n : Int)] ++ (natI out).drop ((j' + 1))) := by rw [Hins.out]; unfold natI; rw [List.map_append, List.map_cons, List.map_take, List.map_drop]; rfl
           have Hni := Lib.hid hni
           clear hni
           go_wp2_with fail
           go_roundw
           case rel => exact ⟨k + 1, by omega, by go_num, by rw [Hst.out, Hss.out, Hni.out]; exact own10, hb2.trans bG⟩
           case measure => simp [intOf]; omega
  · have hke : k = N.length := by omega
    have hi : ¬ (k : Int) < (N.length : Int) := by omega
    have Hk := Lib.hid hke
    clear hke
    obtain ⟨po, co, rfl⟩ := own.rd.shape
    generalize hO : natI ((N.take k).foldl segStep []) = O at *
    go_wp2
    go_ret
    rw [Hk.out, List.take_of_length_le (Nat.le_refl _)] at hO
    rw [hO]
    exact ⟨_, rfl, own.base hs1, b1.trans (hbw.mono hs1)⟩
end Go.Proofs.YtgpgcnmnfnnkjaaDoor
end
