/- Walks: the document's Fresh; the law's at, join, leave, look. -/
import Derived.Test.YtmchkhofcjgeaaaSesE
import Derived.Deep.RegionHeld3
namespace Go.Proofs.Ytmchkhofcjgeaaa
open Go Go.RowKit

set_option maxHeartbeats 1000000 in
theorem sesAt (v : Value) (l : List Ses) (id : Int) (w : World) (hv : Rd sesE w v l) :
    Calls Try.prog 26 #[v, .int .i64 id] w fun e w' => e = .returned (.int .i64 (placeS l id)) ∧ w = w' := by
  obtain ⟨p, cap, rfl, h1, h2, h3, h4⟩ := hv.form
  clear h3 h4
  unfold maxLen at h2
  go_enter Try.func26, Try.ntmps26
  go_wp2
  go_loop [5] (fun i => ∃ k : Nat, k ≤ l.length ∧ i = .int .i64 k ∧ Hid (placeS l id = placeBy (isId id) (l.drop k) k)) (fun i => l.length - (intOf i).toNat)
  case atStart => exact ⟨0, by omega, rfl, rfl⟩
  case round =>
    obtain ⟨k, hk, rfl, hpl⟩ := hrel
    by_cases hlt : k < l.length
    · obtain ⟨b, off, rfl⟩ := Rd.blk hv (by omega)
      obtain ⟨c0, _⟩ := ses5 hv hlt
      have hi : (k : Int) < (l.length : Int) := by omega
      have hhit := Lib.hid (fun h => placeBy_hit (p := isId id) hlt h)
      have hmiss := Lib.hid (fun h => placeBy_miss (p := isId id) hlt h)
      clear hv
      generalize l[k] = s at *
      cases hq : (s.id == id) with
      | true =>
        have Hq : Hid (isId id s = true) := hq
        go_wp2
        go_ret
        exact ⟨ret_int (by rw [hpl.out, hhit.out Hq.out]), rfl⟩
      | false =>
        have Hq : Hid (isId id s = false) := hq
        go_wp2
        go_round
        case rel => exact ⟨k + 1, by omega, by go_num, hpl.out.trans (hmiss.out Hq.out)⟩
        case measure => simp [intOf]; omega
    · go_wp2
      go_ret
      exact ⟨ret_int (by rw [hpl.out, placeBy_end (by omega)]), rfl⟩

set_option maxHeartbeats 2000000 in
theorem sesLeaveL (v : Value) (l : List Ses) (id : Int) (w : World) (hv : Rd sesE w v l) :
    Calls Try.prog 18 #[v, .int .i64 id] w fun e w' => TellsL sesE w' w.heap.size 33 (leaveS l id) e ∧ Below w.heap.size w w' := by
  obtain ⟨p, cap, rfl, h1, h2, h3, h4⟩ := hv.form
  clear h3 h4
  unfold maxLen at h2
  cases hr : rightS l with
  | false =>
    have he : Hid (leaveS l id = .error 1) := by show _ = _; unfold leaveS; rw [if_pos hr]
    have Hr := Lib.hid hr
    clear hr
    go_enter Try.func18, Try.ntmps18
    go_wp2_with fail
    with_reducible refine (sesRefRight _ l _ hv).mono ?_
    rintro e w1 ⟨rfl, n1, hw1⟩
    have b1 : Below w.heap.size w w1 := by rw [hw1]; exact below_drawn _ _ _
    clear hw1
    rw [Hr.out]
    go_wp2_with fail
    go_ret2
    exact ⟨by rw [he.out]; rfl, b1⟩
  | true =>
    have hl8 := right_len hr
    have Hr := Lib.hid hr
    clear hr
    have hj0 : Hid (leaveS l id = if placeS l id < 0 then .error 11 else .ok (l.take (placeS l id).toNat ++ l.drop ((placeS l id).toNat + 1))) := by
      show _ = _; unfold leaveS; rw [if_neg (by rw [Hr.out]; simp)]
    go_enter Try.func18, Try.ntmps18
    go_wp2_with fail
    with_reducible refine (sesRefRight _ l _ hv).mono ?_
    rintro e w1 ⟨rfl, n1, hw1⟩
    have b1 : Below w.heap.size w w1 := by rw [hw1]; exact below_drawn _ _ _
    clear hw1
    rw [Hr.out]
    have hv1 := hv.ext b1
    go_wp2_with fail
    with_reducible refine (sesAt _ l id _ hv1).mono ?_
    rintro e w' ⟨rfl, rfl⟩
    by_cases hp : placeS l id < 0
    · have he : Hid (leaveS l id = .error 11) := by show _ = _; rw [hj0.out, if_pos hp]
      go_wp2_with fail
      go_ret2
      exact ⟨by rw [he.out]; rfl, b1⟩
    · obtain ⟨k, hk, hpk, _⟩ := placeS_lt (l := l) (id := id) (by omega)
      have he : Hid (leaveS l id = .ok (l.take k ++ l.drop (k + 1))) := by show _ = _; rw [hj0.out, if_neg hp, hpk]; rfl
      rw [hpk]
      clear hp hpk hj0
      have hk0 : ¬ (k : Int) < 0 := by omega
      have hsz := b1.size
      have hA := run_sub_to tSes (P := Try.prog) hv1 .i64 (k : Int) k rfl (by omega)
      have hB := run_sub_from tSes (P := Try.prog) hv1 .i64 ((k : Int) + 1) (k + 1) (by omega) (by omega)
      have rA := hv1.sub 0 k (by omega) (by omega)
      have rB := hv1.sub (k + 1) l.length (by omega) (Nat.le_refl _)
      rw [show (l.drop 0).take (k - 0) = l.take k from by simp, show sesE.sz = 5 from rfl] at rA
      rw [show (l.drop (k + 1)).take (l.length - (k + 1)) = l.drop (k + 1) from List.take_of_length_le (by simp), show sesE.sz = 5 from rfl] at rB
      generalize subV (.slice p l.length cap) 0 k 5 = vA at *
      generalize subV (.slice p l.length cap) (k + 1) l.length 5 = vB at *
      have hw : IntKind.i64.wrap ((k : Int) + 1) = (k : Int) + 1 := by rw [IntKind.wrap_i64]; omega
      have hki : (0 : Int) ≤ (k : Int) := by omega
      go_wp2_with fail
      have bL : Below w1.heap.size w1 (w1.drew.alloc (.cells #[] 33)) := (below_drew _ _).trans (below_alloc w1.drew _)
      have own0 : OwnR sesE (w1.drew.alloc (.cells #[] 33)) w1.heap.size 33 (.slice (some ⟨w1.heap.size, 0, none⟩) 0 0) [] := OwnR.litAt sesE w1.drew #[] _ [] 0 w1.heap.size w1.heap.size rfl rfl rfl (Nat.zero_le _) (Nat.le_refl _)
      have rA0 := rA.ext bL
      have hc1 : (([] : List Ses).length + (l.take k).length) * 40 ≤ 140737488355328 := by simp; omega
      have hc2 : (([] ++ l.take k).length + (l.drop (k + 1)).length) * 40 ≤ 140737488355328 := by simp; omega
      have hsL := bL.size
      have Hc1 := Lib.hid hc1
      have Hc2 := Lib.hid hc2
      clear hc1 hc2
      go_region_held3 (fun _ => True) (exact trivial) (first
        | (refine step_appR (E := sesE) (s := .tmp 15) (y := .tmp 18) tSes rfl rfl own0 (by simp [Act.eval, Act.put]) rA0 (by simp [Act.eval, Act.put]) Hc1.out hsL ?_; intro v8 w8 own8 g8 b8; clear g8; have b18 := bL.trans b8; have rB8 := rB.ext b18; have hs8 := b18.size)
        | (refine step_appR (E := sesE) (s := .tmp 19) (y := .tmp 23) tSes rfl rfl own8 (by simp [Act.eval, Act.put]) rB8 (by simp [Act.eval, Act.put]) Hc2.out hs8 ?_; intro v9 w9 own9 g9 b9; clear g9))
      go_wp2_with fail
      go_ret2
      exact ⟨by rw [he.out]; exact ⟨_, rfl, by have h := own9.base hsz; rw [List.nil_append] at h; exact h⟩, b1.trans ((b18.trans b9).mono hsz)⟩

set_option maxHeartbeats 2000000 in
theorem sesJoinL (v : Value) (l : List Ses) (id : Int) (w : World) (hv : Rd sesE w v l) :
    Calls Try.prog 17 #[v, .int .i64 id] w fun e w' => TellsL sesE w' w.heap.size 33 (joinS l id) e ∧ Below w.heap.size w w' := by
  obtain ⟨p, cap, rfl, h1, h2, h3, h4⟩ := hv.form
  clear h3 h4
  unfold maxLen at h2
  cases hr : rightS l with
  | false =>
    have he : Hid (joinS l id = .error 1) := by show _ = _; unfold joinS; rw [if_pos (.inl hr)]
    have Hr := Lib.hid hr
    clear hr
    go_enter Try.func17, Try.ntmps17
    go_wp2_with fail
    with_reducible refine (sesRefRight _ l _ hv).mono ?_
    rintro e w1 ⟨rfl, n1, hw1⟩
    have b1 : Below w.heap.size w w1 := by rw [hw1]; exact below_drawn _ _ _
    clear hw1
    rw [Hr.out]
    go_wp2_with fail
    go_ret2
    exact ⟨by rw [he.out]; rfl, b1⟩
  | true =>
    have hl8 := right_len hr
    have Hr := Lib.hid hr
    clear hr
    by_cases hid : id < 1
    · have he : Hid (joinS l id = .error 1) := by show _ = _; unfold joinS; rw [if_pos (.inr hid)]
      go_enter Try.func17, Try.ntmps17
      go_wp2_with fail
      with_reducible refine (sesRefRight _ l _ hv).mono ?_
      rintro e w1 ⟨rfl, n1, hw1⟩
      have b1 : Below w.heap.size w w1 := by rw [hw1]; exact below_drawn _ _ _
      clear hw1
      rw [Hr.out]
      go_wp2_with fail
      go_ret2
      exact ⟨by rw [he.out]; rfl, b1⟩
    · have hj0 : Hid (joinS l id = if 0 ≤ placeS l id then .error 12 else if 8 ≤ l.length then .error 14 else .ok (l.take (findS l id) ++ ⟨id, 0, rep0⟩ :: l.drop (findS l id))) := by
        show _ = _; unfold joinS; rw [if_neg (by rw [Hr.out]; simp; omega)]
      go_enter Try.func17, Try.ntmps17
      go_wp2_with fail
      with_reducible refine (sesRefRight _ l _ hv).mono ?_
      rintro e w1 ⟨rfl, n1, hw1⟩
      have b1 : Below w.heap.size w w1 := by rw [hw1]; exact below_drawn _ _ _
      clear hw1
      rw [Hr.out]
      have hv1 := hv.ext b1
      go_wp2_with fail
      with_reducible refine (sesAt _ l id _ hv1).mono ?_
      rintro e w' ⟨rfl, rfl⟩
      have hv2 := hv1
      have b12 := b1
      clear hv1 b1
      by_cases hp : 0 ≤ placeS l id
      · have he : Hid (joinS l id = .error 12) := by show _ = _; rw [hj0.out, if_pos hp]
        go_wp2_with fail
        go_ret2
        exact ⟨by rw [he.out]; rfl, b12⟩
      · by_cases h8 : 8 ≤ l.length
        · have he : Hid (joinS l id = .error 14) := by show _ = _; rw [hj0.out, if_neg hp, if_pos h8]
          have h8' : (8 : Int) ≤ (l.length : Int) := by omega
          go_wp2_with fail
          go_ret2
          exact ⟨by rw [he.out]; rfl, b12⟩
        · have he : Hid (joinS l id = .ok (l.take (findS l id) ++ ⟨id, 0, rep0⟩ :: l.drop (findS l id))) := by show _ = _; rw [hj0.out, if_neg hp, if_neg h8]
          have h8' : ¬ (8 : Int) ≤ (l.length : Int) := by omega
          clear hj0
          go_wp2_with fail
          go_loop [6] (fun i => ∃ k : Nat, k ≤ l.length ∧ i = .int .i64 k ∧ Hid (∀ j (h : j < l.length), j < k → l[j].id < id)) (fun i => l.length - (intOf i).toNat)
          case atStart => exact ⟨0, by omega, rfl, fun j h hj => by omega⟩
          case round =>
            obtain ⟨k, hk, rfl, hall⟩ := hrel
            by_cases hgo : ∃ h : k < l.length, l[k].id < id
            · obtain ⟨hlt, hgo⟩ := hgo
              obtain ⟨b, off, rfl⟩ := Rd.blk hv2 (by omega)
              obtain ⟨c0, _⟩ := ses5 hv2 hlt
              have hi : (k : Int) < (l.length : Int) := by omega
              have hall' : Hid (∀ j (h : j < l.length), j < k + 1 → l[j].id < id) := fun j h hj => by
                by_cases e : j = k
                · subst e; exact hgo
                · exact hall.out j h (by omega)
              generalize l[k] = s at c0 hgo
              go_wp2_with fail
              go_round
              case rel => exact ⟨k + 1, by omega, by go_num, hall'⟩
              case measure => simp [intOf]; omega
            · have hf : findS l id = k := findS_is hk hall.out (fun h hx => hgo ⟨h, hx⟩)
              have He := he.out
              rw [hf] at He
              have He' := Lib.hid He
              have hcase : (¬ (k : Int) < (l.length : Int)) ∨ ((k : Int) < (l.length : Int) ∧ ∃ h : k < l.length, ¬ l[k].id < id) := by
                by_cases h : k < l.length
                · exact .inr ⟨by omega, h, fun hx => hgo ⟨h, hx⟩⟩
                · exact .inl (by omega)
              clear hf He he hall
              have hsz := b12.size
              rcases hcase with hi | ⟨hi, hlt, hge⟩
              all_goals
                first
                | (obtain ⟨b, off, rfl⟩ := Rd.blk hv2 (by omega)
                   obtain ⟨c0, _⟩ := ses5 hv2 hlt
                   generalize l[k] = s at c0 hge)
                | skip
                clear hgo
                have hki : (0 : Int) ≤ (k : Int) := by omega
                have hkl : (k : Int) ≤ (l.length : Int) := by omega
                have hA := run_sub_to tSes (P := Try.prog) hv2 .i64 (k : Int) k rfl hk
                have hB := run_sub_from tSes (P := Try.prog) hv2 .i64 (k : Int) k rfl hk
                have rA := hv2.sub 0 k (by omega) hk
                have rB := hv2.sub k l.length hk (Nat.le_refl _)
                rw [show (l.drop 0).take (k - 0) = l.take k from by simp, show sesE.sz = 5 from rfl] at rA
                rw [show (l.drop k).take (l.length - k) = l.drop k from List.take_of_length_le (by simp), show sesE.sz = 5 from rfl] at rB
                first
                | generalize subV (.slice p l.length cap) 0 k 5 = vA at *
                | generalize subV (.slice (some ⟨b, off, none⟩) l.length cap) 0 k 5 = vA at *
                first
                | generalize subV (.slice p l.length cap) k l.length 5 = vB at *
                | generalize subV (.slice (some ⟨b, off, none⟩) l.length cap) k l.length 5 = vB at *
                go_wp2_with fail
                have bA : Below w1.heap.size w1 (w1.drew.alloc (.cells #[] 33)) := (below_drew _ _).trans (below_alloc w1.drew _)
                have bB : Below w1.heap.size w1 ((w1.drew.alloc (.cells #[] 33)).alloc (.cells #[.int .i64 id, .int .i64 0, .int .i64 0, .int .i64 0, .int .i64 0] 33)) := bA.trans ((below_alloc _ _).mono bA.size)
                have bC0 : Below w1.heap.size w1 (w1.drew.alloc (.cells #[.int .i64 id, .int .i64 0, .int .i64 0, .int .i64 0, .int .i64 0] 33)) := (below_drew _ _).trans (below_alloc w1.drew _)
                have bC : Below w1.heap.size w1 ((w1.drew.alloc (.cells #[.int .i64 id, .int .i64 0, .int .i64 0, .int .i64 0, .int .i64 0] 33)).alloc (.cells #[] 33)) := bC0.trans ((below_alloc _ _).mono bC0.size)
                have hSe : (w1.drew.alloc (.cells #[] 33)).heap.size = w1.heap.size + 1 := by show (w1.heap.push _).size = _; simp
                have hSl : (w1.drew.alloc (.cells #[.int .i64 id, .int .i64 0, .int .i64 0, .int .i64 0, .int .i64 0] 33)).heap.size = w1.heap.size + 1 := by show (w1.heap.push _).size = _; simp
                have ownA : OwnR sesE (w1.drew.alloc (.cells #[] 33)) w1.heap.size 33 (.slice (some ⟨w1.heap.size, 0, none⟩) 0 0) [] := OwnR.litAt sesE w1.drew #[] _ [] 0 w1.heap.size w1.heap.size rfl rfl rfl (Nat.zero_le _) (Nat.le_refl _)
                have ownB := ownA.ext (below_alloc _ (.cells #[.int .i64 id, .int .i64 0, .int .i64 0, .int .i64 0, .int .i64 0] 33))
                have ownC : OwnR sesE ((w1.drew.alloc (.cells #[.int .i64 id, .int .i64 0, .int .i64 0, .int .i64 0, .int .i64 0] 33)).alloc (.cells #[] 33)) w1.heap.size 33 (.slice (some ⟨w1.heap.size + 1, 0, none⟩) 0 0) [] := OwnR.litAt sesE _ #[] _ [] 0 w1.heap.size (w1.heap.size + 1) hSl rfl rfl (Nat.zero_le _) (by omega)
                have LB : Rd sesE ((w1.drew.alloc (.cells #[] 33)).alloc (.cells #[.int .i64 id, .int .i64 0, .int .i64 0, .int .i64 0, .int .i64 0] 33)) (.slice (some ⟨w1.heap.size + 1, 0, none⟩) 1 1) [⟨id, 0, rep0⟩] := OwnR.rd (OwnR.litAt sesE _ _ _ [⟨id, 0, rep0⟩] 1 0 (w1.heap.size + 1) hSe rfl rfl (by unfold maxLen; omega) (Nat.zero_le _))
                have LC : Rd sesE ((w1.drew.alloc (.cells #[.int .i64 id, .int .i64 0, .int .i64 0, .int .i64 0, .int .i64 0] 33)).alloc (.cells #[] 33)) (.slice (some ⟨w1.heap.size, 0, none⟩) 1 1) [⟨id, 0, rep0⟩] := Rd.ext (OwnR.rd (OwnR.litAt sesE w1.drew _ _ [⟨id, 0, rep0⟩] 1 0 w1.heap.size rfl rfl rfl (by unfold maxLen; omega) (Nat.zero_le _))) (below_alloc _ _)
                have hneB : (Value.slice (some ⟨w1.heap.size + 1, 0, none⟩) 1 1).ownBlock ≠ (Value.slice (some ⟨w1.heap.size, 0, none⟩) 0 0).ownBlock := by simp [Value.ownBlock]
                have hneC : (Value.slice (some ⟨w1.heap.size, 0, none⟩) 1 1).ownBlock ≠ (Value.slice (some ⟨w1.heap.size + 1, 0, none⟩) 0 0).ownBlock := by simp [Value.ownBlock]
                have HneB := Lib.hid hneB
                have HneC := Lib.hid hneC
                have hc1 : (([] : List Ses).length + (l.take k).length) * 40 ≤ 140737488355328 := by simp; omega
                have hc2 : (([] ++ l.take k).length + [(⟨id, 0, rep0⟩ : Ses)].length) * 40 ≤ 140737488355328 := by simp; omega
                have hc3 : (([] ++ l.take k ++ [(⟨id, 0, rep0⟩ : Ses)]).length + (l.drop k).length) * 40 ≤ 140737488355328 := by simp; omega
                have Hc1 := Lib.hid hc1
                have Hc2 := Lib.hid hc2
                have Hc3 := Lib.hid hc3
                have HLB := Lib.hid LB
                have HLC := Lib.hid LC
                clear hc1 hc2 hc3 hSe hSl hneB hneC LB LC
                go_region_held3 (fun _ => True) (exact trivial) (first
                  | (refine step_appR (E := sesE) (s := .tmp 39) (y := .tmp 42) (B := w1.heap.size) (l := []) (m := l.take k) tSes rfl rfl (by first | exact ownA | exact ownB | exact ownC) (by simp [Act.eval, Act.put]) (by first | exact rA.ext bA | exact rA.ext bB | exact rA.ext bC) (by simp [Act.eval, Act.put]) Hc1.out (by first | exact bA.size | exact bB.size | exact bC.size) ?_; intro v8 w8 own8 g8 b8; have b18 : Below w1.heap.size w1 w8 := (by first | exact bA.trans b8 | exact bB.trans b8 | exact bC.trans b8); have L8 : True ∧ (Rd sesE w8 (.slice (some ⟨w1.heap.size + 1, 0, none⟩) 1 1) [⟨id, 0, rep0⟩] ∨ Rd sesE w8 (.slice (some ⟨w1.heap.size, 0, none⟩) 1 1) [⟨id, 0, rep0⟩] ∨ True) := (by first | exact ⟨trivial, .inl (HLB.out.grown g8 (.inr HneB.out))⟩ | exact ⟨trivial, .inr (.inl (HLC.out.grown g8 (.inr HneC.out)))⟩ | exact ⟨trivial, .inr (.inr trivial)⟩); clear L8; clear b8)
                  | (refine step_appR (E := sesE) (s := .tmp 43) (y := .tmp 46) (B := w1.heap.size) (l := [] ++ l.take k) (m := [⟨id, 0, rep0⟩]) tSes rfl rfl (by first | exact own8 | exact own8.ext (below_alloc _ _)) (by simp [Act.eval, Act.put]) (by first | exact OwnR.rd (OwnR.litAt sesE w8 _ _ [⟨id, 0, rep0⟩] 1 0 w8.heap.size rfl rfl rfl (by unfold maxLen; omega) (Nat.zero_le _)) | exact HLB.out.grown g8 (.inr HneB.out) | exact HLC.out.grown g8 (.inr HneC.out)) (by simp [Act.eval, Act.put]) Hc2.out (by first | exact b18.size | exact (b18.trans ((below_alloc _ _).mono b18.size)).size) ?_; intro v9 w9 own9 g9 b9; have b19 : Below w1.heap.size w1 w9 := (by first | exact b18.trans b9 | exact (b18.trans ((below_alloc _ _).mono b18.size)).trans b9); have rB9 := rB.ext b19; have hs9 := b19.size; clear g9)
                  | (refine step_appR (E := sesE) (s := .tmp 47) (y := .tmp 50) tSes rfl rfl own9 (by simp [Act.eval, Act.put]) rB9 (by simp [Act.eval, Act.put]) Hc3.out hs9 ?_; intro v10 w10 own10 g10 b10; clear g10))
                all_goals
                  go_wp2_with fail
                  go_ret2
                  exact ⟨by rw [He'.out]; exact ⟨_, rfl, by have h := own10.base hsz; rw [List.nil_append, List.append_assoc] at h; exact h⟩, b12.trans ((b19.trans b10).mono hsz)⟩
end Go.Proofs.Ytmchkhofcjgeaaa
