/- Walks of package wal: clean. -/
import Derived.Test.YtgpgcnmnfnnkjaaGreatDoorGWalOpens40
import Derived.Test.YtgpgcnmnfnnkjaaGreatDoorGWalOpens27
set_option linter.unusedVariables false
set_option linter.unusedSimpArgs false
section
namespace Go.Proofs.YtgpgcnmnfnnkjaaGreatDoor
open Go Go.RowKit Go.PlainAid BigFrame
def DidD (w0 w : World) (X : Nat → Prop) (g : Nat) (E : Int) (d' : Dk) (e : Ending) (w' : World) : Prop := e = .returned (.int .i64 E) ∧ DwS w0 X g d' w' ∧ Chg (Gx w0 X) w w'
theorem removesD_nil (n : Nat) (d : Dk) : removesD [] n d = (0, d) := rfl
theorem removesD_same {k n : Nat} (r : List Nat) (d : Dk) (h : k = n) : removesD (k :: r) n d = removesD r n d := by rw [removesD, if_pos h]
theorem removesD_go {k n : Nat} (r : List Nat) (d : Dk) (h : k ≠ n) : removesD (k :: r) n d = thenD (removeD d (nameW k)) (removesD r n) := by rw [removesD, if_neg h]

set_option maxRecDepth 8000 in
set_option maxHeartbeats 16000000 in
theorem walClean {w0 w : World} {X : Nat → Prop} {g : Nat} {d d' : Dk} (T0 : ∀ z, Below w0.heap.size w0 z → TabW z) (hd : DwS w0 X g d w) (hb0 : Below w0.heap.size w0 w) {m : Nat} (pi : PInv m d) (l : List Nat) (hll : l.length ≤ 300) (hm : m ≤ 500) (u : Value) (hu : Rd intsE w u (natI l)) (hux : ∀ k, u.ownBlock = some k → k < w0.heap.size ∨ X k) (hln : ∀ x ∈ l, x ≤ 99999999999999) (n : Nat) (N : Int) (hN : N = (n : Int)) (hn : n ≤ 99999999999999) (s : Sg) (v : Value) {E : Int} (he : cleanD d l n s = (E, d')) :
 Calls Tryz.prog 65 #[.pointer (some ⟨g, 0, none⟩), u, .int .i64 N, .agg (segA s v)] w (DidD w0 w X g E d') := by
 subst hN
 obtain ⟨pu, cu, rfl⟩ := hu.shape
 rw [natI_length] at hu hux ⊢
 have hcd : cleanD d l n s = thenD (cutS d n s) fun d => thenD (removesD l n d) fun d => if 0 < n then syncD d (nameW n) else (0, d) := rfl
 rw [he] at hcd
 have hcs : cutS d n s = if 0 < n ∧ s.size < (fileW d n).length then cutD d (nameW n) s.size else (0, d) := rfl
 have Hcd := Lib.hid hcd
 have Hcs := Lib.hid hcs
 clear he hcd hcs
 have hs0 := hb0.size
 have ca := below_alloc w (.cells (segA s v) 102)
 have kA := Blk.new w (segA s v) 102
 have hHs : (w.alloc (.cells (segA s v) 102)).heap.size = w.heap.size + 1 := by simp
 have hd0 := hd.ext ca
 have hb1 : Below w0.heap.size w0 (w.alloc (.cells (segA s v) 102)) := hb0.trans (ca.mono hs0)
 by_cases hn0 : 0 < n
 · have hni : (0 : Int) < (n : Int) := by omega
   have T1 := T0 _ hb1
   have c9 := kA.cell 9 _ rfl
   go_enter Tryz.func65, Tryz.ntmps65
   go_wp2_with fail
   refine (walNamed n _ rfl (by omega) _ T1).mono ?_
   rintro e w1 ⟨rfl, b1⟩
   have hd1 := hd0.ext b1
   go_wp2_with fail
   refine (lRead hd1 (pi.ok (by omega)) (nameW n) rfl).mono ?_
   rintro e w2 ⟨⟨r, rfl, own2⟩, b2⟩
   have hd2 := hd1.ext b2
   have b02 := ca.trans ((b1.trans (b2.mono b1.size)).mono (by omega))
   have kA2 := (kA.ext b1).ext b2
   have c92 : w2.cell? ⟨w.heap.size, 9, none⟩ = some (.int .i64 (s.size : Int)) := kA2.cell 9 _ rfl
   have hfw : fileW d n = (readD d (nameW n)).getD [] := rfl
   rw [← hfw] at own2
   clear hfw
   generalize (readD d (nameW n)).isSome = qb at *
   obtain ⟨pr, cr, rfl⟩ := own2.bytes.shape
   clear T1 c9
   by_cases hc : s.size < (fileW d n).length
   · have hci : (s.size : Int) < ((fileW d n).length : Int) := by omega
     have hcs := Hcs.out
     rw [if_pos ⟨hn0, hc⟩] at hcs
     obtain ⟨E1, D1, hcut⟩ : ∃ E1 D1, cutD d (nameW n) s.size = (E1, D1) := ⟨_, _, rfl⟩
     rw [hcut] at hcs
     have pi1 : PInv (m + 1) D1 := by have := pi.cut (nameW n) (s.size : Int); rw [hcut] at this; exact this
     have Hcs1 := Lib.hid hcs
     clear hcs hc
     generalize fileW d n = FL at *
     go_wp2_with fail
     have hdX : DwS w0 (fun k => X k ∨ k = w.heap.size) g d w2 := hd.more b02 (fun k hk => hk.imp id (fun e => by have := kA2.lt; omega))
     refine wp_region_F (n := 6) (S := fun w' : World => w'.cell? ⟨w.heap.size, 9, none⟩ = some (.int .i64 (s.size : Int))) (by kernel_rfl) ?_
     have hHeld : (fun w' : World => w'.cell? ⟨w.heap.size, 9, none⟩ = some (.int .i64 (s.size : Int))) w2.drew := c92
     refine wpAnyF_tk 0 _ _ _ (v := ?_) rfl (by kernel_rfl) (fun _ _ _ h => h) ?_ hHeld ?_
     rotate_left
     · intro w hSw
       try dsimp only at hSw
       dsimp only [bare]
       go_simp <;> with_reducible rfl
     try simp only [bare, Act.put, lyA, lyZ, lyS]
     refine wpAnyF_tk 1 _ _ _ (v := ?_) rfl (by kernel_rfl) (fun _ _ _ h => h) ?_ hHeld ?_
     rotate_left
     · intro w hSw
       try dsimp only at hSw
       dsimp only [bare]
       go_simp <;> with_reducible rfl
     try simp only [bare, Act.put, lyA, lyZ, lyS]
     refine wpAnyF_tk 3 _ _ _ (v := ?_) rfl (by kernel_rfl) (fun _ _ _ h => h) ?_ hHeld ?_
     rotate_left
     · intro w hSw
       try dsimp only at hSw
       dsimp only [bare]
       go_simp <;> with_reducible rfl
     try simp only [bare, Act.put, lyA, lyZ, lyS]
     refine wpAnyF_tk 4 _ _ _ (v := ?_) rfl (by kernel_rfl) (fun _ _ _ h => h) ?_ hHeld ?_
     rotate_left
     · intro w hSw
       try dsimp only at hSw
       dsimp only [bare]
       go_simp <;> with_reducible rfl
     try simp only [bare, Act.put, lyA, lyZ, lyS]
     refine wpAnyF_one 2 (some 31) (Op.call { callee := Callee.value (Operand.func 63), args := #[Operand.tmp 30], argTypes := #[3] }) 9 rfl (by kernel_rfl) (fun K hK => ?_)
     dsimp only [bare]; go_simp
     have hb02 : Below w0.heap.size w0 w2 := hb0.trans (b02.mono hs0)
     refine (walNamed n _ rfl (by omega) w2.drew (T0 _ hb02.drew)).mono ?_
     rintro e w3 ⟨rfl, b3⟩
     dsimp only
     have bE : Below w2.heap.size w2 w3 := (below_drew _ _).trans b3
     have kA3 := kA2.ext bE
     refine hK _ _ (kA3.cell 9 _ rfl) (fun hHeld => ?_)
     clear hK K
     try simp only [bare, Act.put, lyA, lyZ, lyS]
     refine wpAnyF_one 5 (some 34) (Op.call { callee := Callee.value (Operand.func 100), args := #[Operand.tmp 29, Operand.tmp 31, Operand.tmp 33], argTypes := #[40, 9, 3] }) 42 rfl (by kernel_rfl) (fun K hK => ?_)
     dsimp only [bare]; go_simp
     refine (lCut (hdX.ext bE) (pi.ok (by omega)) hcut).mono ?_
     rintro e w4 ⟨rfl, hd4, ch4⟩
     dsimp only
     have kA4 := ch4.blk kA3 (fun hG => hG.2 (.inr rfl))
     refine hK _ _ (kA4.cell 9 _ rfl) (fun hHeld => ?_)
     clear hK K
     try simp only [bare, Act.put, lyA, lyZ, lyS]
     refine wpAnyF_end (some 11) (Op.assign (Operand.tmp 34)) 42 rfl (by kernel_rfl) (by kernel_rfl) (fun K hK => ?_)
     dsimp only [bare]; go_simp
     refine hK _ _ ?_
     clear hK K
     try simp only [bare, Act.put, lyA, lyZ, lyS]
     have hdY := hd4.mono (Y := X) (fun k hk => .inl hk)
     have chY : Chg (Gx w0 X) w w4 := (Chg.of_below (b02.trans (bE.mono b02.size))).step (ch4.mono fun k _ hk => ⟨hk.1, fun hX => hk.2 (.inl hX)⟩)
     unfold thenD at Hcd
     by_cases hE : E1 = 0
     · subst hE
       have hcd := Hcd.out
       rw [Hcs1.out, if_pos rfl] at hcd
       have Hcd := Lib.hid hcd
       clear hcd
       go_wp2_with fail
       go_loopw [40] (fun i wr => ∃ (k : Nat) (dk : Dk), k ≤ l.length ∧ i = .int .i64 k ∧ Hid (removesD l n D1 = removesD (l.drop k) n dk) ∧ PInv (m + 1 + k) dk ∧ DwS w0 X g dk wr ∧ Chg (Gx w0 X) w wr) (fun i _ => l.length - (intOf i).toNat)
       case atStart => exact ⟨0, D1, by omega, rfl, rfl, pi1, hdY, chY⟩
       case round =>
        obtain ⟨k, dk, hk, rfl, hrem, pk, hdk, chk⟩ := hrel
        have hbk : Below w0.heap.size w0 wr := hb0.trans (chk.gx hs0)
        by_cases hlt : k < l.length
        · have huk := chk.cells hu (fun j hj hG => (hux j hj).elim (fun e => by have := hG.1; omega) (fun e => hG.2 e))
          obtain ⟨bb, off, rfl⟩ := Rd.blk (E := intsE) (l := natI l) (show Rd intsE wr (.slice pu l.length cu) (natI l) from huk) (by rw [natI_length]; omega)
          have c0 : wr.cell? ⟨bb, off + k, none⟩ = some (.int .i64 (l[k] : Nat)) := by
           have := (show Rd intsE wr (.slice (some ⟨bb, off, none⟩) l.length cu) (natI l) from huk).at_ (k := k) (by rw [natI_length]; exact hlt) 0 (by decide)
           simpa [intsE, natI] using this
          have hi : (k : Int) < (l.length : Int) := by omega
          have hi0 : (0 : Int) ≤ (k : Int) := by omega
          have hx := hln l[k] (List.getElem_mem hlt)
          have hr2 := hrem.out
          rw [List.drop_eq_getElem_cons hlt] at hr2
          clear huk
          generalize l[k] = x at *
          by_cases hxn : x = n
          · have hxi : ((x : Int) == (n : Int)) = true := by simp [hxn]
            have hr3 := Lib.hid (hr2.trans (removesD_same _ _ hxn))
            clear hr2 hxn hrem
            go_wp2_with fail
            go_roundw
            case rel => exact ⟨k + 1, dk, by omega, by go_num, hr3.out, by have := pk.up; exact this, hdk, chk⟩
            case measure => simp [intOf]; omega
          · have hxi : ((x : Int) == (n : Int)) = false := by simp; omega
            have hr3 := hr2.trans (removesD_go _ _ hxn)
            obtain ⟨E2, D2, hrm⟩ : ∃ E2 D2, removeD dk (nameW x) = (E2, D2) := ⟨_, _, rfl⟩
            rw [hrm] at hr3
            unfold thenD at hr3
            have pk2 : PInv (m + 1 + k + 1) D2 := by have := pk.remove (nameW x); rw [hrm] at this; exact this
            clear hr2 hxn hrem
            go_wp2_with fail
            refine (walNamed x _ rfl (by omega) wr (T0 _ hbk)).mono ?_
            rintro e w5 ⟨rfl, b5⟩
            go_wp2_with fail
            refine (lRemove (hdk.ext b5) (pk.ok (by omega)) hrm).mono ?_
            rintro e w6 ⟨rfl, hd6, ch6⟩
            have ch06 : Chg (Gx w0 X) w w6 := (chk.step (.of_below b5)).step ch6
            by_cases hE : E2 = 0
            · subst hE
              rw [if_pos rfl] at hr3
              have Hr3 := Lib.hid hr3
              clear hr3
              go_wp2_with fail
              go_roundw
              case rel => first | exact ⟨k + 1, D2, by omega, by go_num, Hr3.out, pk2, hd6, ch06⟩ | exact ⟨_, _, _, _, _, _, _, _, _, _, _, _, _, _, _, _, _, _, ⟨k + 1, D2, by omega, by go_num, Hr3.out, pk2, hd6, ch06⟩, by rw [decide_eq_false (show ¬ s.size < FL.length from by omega)]; rfl⟩
              case measure => simp [intOf]; omega
            · have hne : (E2 != 0) = true := by simpa using hE
              rw [if_neg hE] at hr3
              have hcd := Hcd.out
              unfold thenD at hcd
              rw [hr3, if_neg hE] at hcd
              simp only [Prod.mk.injEq] at hcd
              obtain ⟨rfl, rfl⟩ := hcd
              clear hr3
              go_wp2_with fail
              go_ret
              exact ⟨rfl, hd6, ch06⟩
        · have hi : ¬ (k : Int) < (l.length : Int) := by omega
          have hr2 := hrem.out
          rw [List.drop_of_length_le (by omega), removesD_nil] at hr2
          have hcd := Hcd.out
          unfold thenD at hcd
          rw [hr2, if_pos rfl] at hcd
          clear hr2 hrem
          rw [if_pos hn0] at hcd
          go_wp2_with fail
          refine (walNamed n _ rfl (by omega) wr (T0 _ hbk)).mono ?_
          rintro e w5 ⟨rfl, b5⟩
          go_wp2_with fail
          refine (lSync (hdk.ext b5) (pk.ok (by omega)) hcd.symm).mono ?_
          rintro e w6 ⟨rfl, hd6, ch6⟩
          go_wp2_with fail
          go_ret
          exact ⟨rfl, hd6, (chk.step (.of_below b5)).step ch6⟩
     · have hne : (E1 != 0) = true := by simpa using hE
       have hcd := Hcd.out
       rw [Hcs1.out, if_neg hE] at hcd
       simp only [Prod.mk.injEq] at hcd
       obtain ⟨rfl, rfl⟩ := hcd
       go_wp2_with fail
       go_ret
       exact ⟨rfl, hdY, chY⟩
   · have hci : ¬ (s.size : Int) < ((fileW d n).length : Int) := by omega
     have hcs := Hcs.out
     rw [if_neg (fun hh => hc hh.2)] at hcs
     have hcd := Hcd.out
     unfold thenD at hcd
     rw [hcs, if_pos rfl] at hcd
     have Hcd := Lib.hid hcd
     have chY : Chg (Gx w0 X) w w2 := .of_below b02
     clear hcs hcd hc
     generalize fileW d n = FL at *
     go_wp2_with fail
     go_loopw [40] (fun i wr => ∃ (k : Nat) (dk : Dk), k ≤ l.length ∧ i = .int .i64 k ∧ Hid (removesD l n d = removesD (l.drop k) n dk) ∧ PInv (m + k) dk ∧ DwS w0 X g dk wr ∧ Chg (Gx w0 X) w wr) (fun i _ => l.length - (intOf i).toNat)
     case atStart => exact ⟨0, d, by omega, rfl, rfl, pi, hd2, chY⟩
     case round =>
      obtain ⟨k, dk, hk, rfl, hrem, pk, hdk, chk⟩ := hrel
      have hbk : Below w0.heap.size w0 wr := hb0.trans (chk.gx hs0)
      by_cases hlt : k < l.length
      · have huk := chk.cells hu (fun j hj hG => (hux j hj).elim (fun e => by have := hG.1; omega) (fun e => hG.2 e))
        obtain ⟨bb, off, rfl⟩ := Rd.blk (E := intsE) (l := natI l) (show Rd intsE wr (.slice pu l.length cu) (natI l) from huk) (by rw [natI_length]; omega)
        have c0 : wr.cell? ⟨bb, off + k, none⟩ = some (.int .i64 (l[k] : Nat)) := by
         have := (show Rd intsE wr (.slice (some ⟨bb, off, none⟩) l.length cu) (natI l) from huk).at_ (k := k) (by rw [natI_length]; exact hlt) 0 (by decide)
         simpa [intsE, natI] using this
        have hi : (k : Int) < (l.length : Int) := by omega
        have hi0 : (0 : Int) ≤ (k : Int) := by omega
        have hx := hln l[k] (List.getElem_mem hlt)
        have hr2 := hrem.out
        rw [List.drop_eq_getElem_cons hlt] at hr2
        clear huk
        generalize l[k] = x at *
        by_cases hxn : x = n
        · have hxi : ((x : Int) == (n : Int)) = true := by simp [hxn]
          have hr3 := Lib.hid (hr2.trans (removesD_same _ _ hxn))
          clear hr2 hxn hrem
          go_wp2_with fail
          go_roundw
          case rel => exact ⟨k + 1, dk, by omega, by go_num, hr3.out, by have := pk.up; exact this, hdk, chk⟩
          case measure => simp [intOf]; omega
        · have hxi : ((x : Int) == (n : Int)) = false := by simp; omega
          have hr3 := hr2.trans (removesD_go _ _ hxn)
          obtain ⟨E2, D2, hrm⟩ : ∃ E2 D2, removeD dk (nameW x) = (E2, D2) := ⟨_, _, rfl⟩
          rw [hrm] at hr3
          unfold thenD at hr3
          have pk2 : PInv (m + k + 1) D2 := by have := pk.remove (nameW x); rw [hrm] at this; exact this
          clear hr2 hxn hrem
          go_wp2_with fail
          refine (walNamed x _ rfl (by omega) wr (T0 _ hbk)).mono ?_
          rintro e w5 ⟨rfl, b5⟩
          go_wp2_with fail
          refine (lRemove (hdk.ext b5) (pk.ok (by omega)) hrm).mono ?_
          rintro e w6 ⟨rfl, hd6, ch6⟩
          have ch06 : Chg (Gx w0 X) w w6 := (chk.step (.of_below b5)).step ch6
          by_cases hE : E2 = 0
          · subst hE
            rw [if_pos rfl] at hr3
            have Hr3 := Lib.hid hr3
            clear hr3
            go_wp2_with fail
            go_roundw
            case rel => first | exact ⟨k + 1, D2, by omega, by go_num, Hr3.out, pk2, hd6, ch06⟩ | exact ⟨_, _, _, _, _, _, _, _, _, _, _, _, _, _, _, _, _, _, ⟨k + 1, D2, by omega, by go_num, Hr3.out, pk2, hd6, ch06⟩, by rw [decide_eq_false (show ¬ s.size < FL.length from by omega)]; rfl⟩
            case measure => simp [intOf]; omega
          · have hne : (E2 != 0) = true := by simpa using hE
            rw [if_neg hE] at hr3
            have hcd := Hcd.out
            unfold thenD at hcd
            rw [hr3, if_neg hE] at hcd
            simp only [Prod.mk.injEq] at hcd
            obtain ⟨rfl, rfl⟩ := hcd
            clear hr3
            go_wp2_with fail
            go_ret
            exact ⟨rfl, hd6, ch06⟩
      · have hi : ¬ (k : Int) < (l.length : Int) := by omega
        have hr2 := hrem.out
        rw [List.drop_of_length_le (by omega), removesD_nil] at hr2
        have hcd := Hcd.out
        unfold thenD at hcd
        rw [hr2, if_pos rfl] at hcd
        clear hr2 hrem
        rw [if_pos hn0] at hcd
        go_wp2_with fail
        refine (walNamed n _ rfl (by omega) wr (T0 _ hbk)).mono ?_
        rintro e w5 ⟨rfl, b5⟩
        go_wp2_with fail
        refine (lSync (hdk.ext b5) (pk.ok (by omega)) hcd.symm).mono ?_
        rintro e w6 ⟨rfl, hd6, ch6⟩
        go_wp2_with fail
        go_ret
        exact ⟨rfl, hd6, (chk.step (.of_below b5)).step ch6⟩
 · have hni : ¬ (0 : Int) < (n : Int) := by omega
   have hcs := Hcs.out
   rw [if_neg (fun hh => hn0 hh.1)] at hcs
   have hcd := Hcd.out
   unfold thenD at hcd
   rw [hcs, if_pos rfl] at hcd
   have Hcd := Lib.hid hcd
   have chY : Chg (Gx w0 X) w (w.alloc (.cells (segA s v) 102)) := .of_below ca
   clear hcs hcd
   go_enter Tryz.func65, Tryz.ntmps65
   go_wp2_with fail
   go_loopw [40] (fun i wr => ∃ (k : Nat) (dk : Dk), k ≤ l.length ∧ i = .int .i64 k ∧ Hid (removesD l n d = removesD (l.drop k) n dk) ∧ PInv (m + k) dk ∧ DwS w0 X g dk wr ∧ Chg (Gx w0 X) w wr) (fun i _ => l.length - (intOf i).toNat)
   case atStart => exact ⟨0, d, by omega, rfl, rfl, pi, hd0, chY⟩
   case round =>
    obtain ⟨k, dk, hk, rfl, hrem, pk, hdk, chk⟩ := hrel
    have hbk : Below w0.heap.size w0 wr := hb0.trans (chk.gx hs0)
    by_cases hlt : k < l.length
    · have huk := chk.cells hu (fun j hj hG => (hux j hj).elim (fun e => by have := hG.1; omega) (fun e => hG.2 e))
      obtain ⟨bb, off, rfl⟩ := Rd.blk (E := intsE) (l := natI l) (show Rd intsE wr (.slice pu l.length cu) (natI l) from huk) (by rw [natI_length]; omega)
      have c0 : wr.cell? ⟨bb, off + k, none⟩ = some (.int .i64 (l[k] : Nat)) := by
       have := (show Rd intsE wr (.slice (some ⟨bb, off, none⟩) l.length cu) (natI l) from huk).at_ (k := k) (by rw [natI_length]; exact hlt) 0 (by decide)
       simpa [intsE, natI] using this
      have hi : (k : Int) < (l.length : Int) := by omega
      have hi0 : (0 : Int) ≤ (k : Int) := by omega
      have hx := hln l[k] (List.getElem_mem hlt)
      have hr2 := hrem.out
      rw [List.drop_eq_getElem_cons hlt] at hr2
      clear huk
      generalize l[k] = x at *
      by_cases hxn : x = n
      · have hxi : ((x : Int) == (n : Int)) = true := by simp [hxn]
        have hr3 := Lib.hid (hr2.trans (removesD_same _ _ hxn))
        clear hr2 hxn hrem
        go_wp2_with fail
        go_roundw
        case rel => exact ⟨k + 1, dk, by omega, by go_num, hr3.out, by have := pk.up; exact this, hdk, chk⟩
        case measure => simp [intOf]; omega
      · have hxi : ((x : Int) == (n : Int)) = false := by simp; omega
        have hr3 := hr2.trans (removesD_go _ _ hxn)
        obtain ⟨E2, D2, hrm⟩ : ∃ E2 D2, removeD dk (nameW x) = (E2, D2) := ⟨_, _, rfl⟩
        rw [hrm] at hr3
        unfold thenD at hr3
        have pk2 : PInv (m + k + 1) D2 := by have := pk.remove (nameW x); rw [hrm] at this; exact this
        clear hr2 hxn hrem
        go_wp2_with fail
        refine (walNamed x _ rfl (by omega) wr (T0 _ hbk)).mono ?_
        rintro e w5 ⟨rfl, b5⟩
        go_wp2_with fail
        refine (lRemove (hdk.ext b5) (pk.ok (by omega)) hrm).mono ?_
        rintro e w6 ⟨rfl, hd6, ch6⟩
        have ch06 : Chg (Gx w0 X) w w6 := (chk.step (.of_below b5)).step ch6
        by_cases hE : E2 = 0
        · subst hE
          rw [if_pos rfl] at hr3
          have Hr3 := Lib.hid hr3
          clear hr3
          go_wp2_with fail
          go_roundw
          case rel => first | exact ⟨k + 1, D2, by omega, by go_num, Hr3.out, pk2, hd6, ch06⟩ | exact ⟨_, _, _, _, _, _, _, _, _, _, _, _, _, _, _, _, _, _, ⟨k + 1, D2, by omega, by go_num, Hr3.out, pk2, hd6, ch06⟩, by rw [decide_eq_false (show ¬ s.size < FL.length from by omega)]; rfl⟩
          case measure => simp [intOf]; omega
        · have hne : (E2 != 0) = true := by simpa using hE
          rw [if_neg hE] at hr3
          have hcd := Hcd.out
          unfold thenD at hcd
          rw [hr3, if_neg hE] at hcd
          simp only [Prod.mk.injEq] at hcd
          obtain ⟨rfl, rfl⟩ := hcd
          clear hr3
          go_wp2_with fail
          go_ret
          exact ⟨rfl, hd6, ch06⟩
    · have hi : ¬ (k : Int) < (l.length : Int) := by omega
      have hr2 := hrem.out
      rw [List.drop_of_length_le (by omega), removesD_nil] at hr2
      have hcd := Hcd.out
      unfold thenD at hcd
      rw [hr2, if_pos rfl] at hcd
      clear hr2 hrem
      rw [if_neg hn0] at hcd
      simp only [Prod.mk.injEq] at hcd
      obtain ⟨rfl, rfl⟩ := hcd
      go_wp2_with fail
      go_ret
      exact ⟨rfl, hdk, chk⟩
end Go.Proofs.YtgpgcnmnfnnkjaaGreatDoor
end
