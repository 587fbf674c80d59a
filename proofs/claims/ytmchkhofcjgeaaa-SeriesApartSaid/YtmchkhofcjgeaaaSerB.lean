/- Walks: series.Open; the document's Open. -/
import Derived.Test.YtmchkhofcjgeaaaSerA
import Derived.Test.YtmchkhofcjgeaaaInsSrs
import Derived.Deep.RegionHeld3
namespace Go.Proofs.Ytmchkhofcjgeaaa
open Go Go.RowKit

theorem srsCopied (v : Value) (l : List Srs) (w : World) (hv : Rd srsE w v l) (hl : l.length * 40 ≤ 140737488355328) :
    Calls Try.prog 48 #[v] w fun e w' => (∃ u, e = .returned u ∧ OwnR srsE w' w.heap.size 66 u l) ∧ Below w.heap.size w w' := by
  obtain ⟨p, cap, rfl⟩ := hv.shape
  go_enter Try.func48, Try.ntmps48
  go_wp2_with (first
    | (at_builtin; refine wpList_appR (E := srsE) tSrs rfl rfl (OwnR.nil w w.heap.size _) rfl hv rfl (by simp; omega) (Nat.le_refl _) ?_; intro v3 w3 own3 g3 b3; rw [List.nil_append] at own3; clear g3)
    | fail)
  go_ret
  exact ⟨⟨_, rfl, own3⟩, b3⟩

set_option maxHeartbeats 4000000 in
set_option maxRecDepth 100000 in
theorem srsOpen (v : Value) (l : List Srs) (id : ByteArray) (lim : Int) (w : World) (hv : Rd srsE w v l) :
    Calls Try.prog 27 #[v, .string id, .int .i64 lim] w fun e w' => TellsL srsE w' w.heap.size 66 (openR l id lim) e ∧ Below w.heap.size w w' := by
  obtain ⟨p, cap, rfl, h1, h2, h3, h4⟩ := hv.form
  clear h3 h4
  unfold maxLen at h2
  cases hr : rightR l with
  | false =>
    have he : Hid (openR l id lim = .error 1) := by show _ = _; unfold openR; rw [if_pos hr]
    have Hr := Lib.hid hr
    clear hr
    go_enter Try.func27, Try.ntmps27
    go_wp2_with fail
    with_reducible refine (srsRight _ l _ hv).mono ?_
    rintro e w1 ⟨rfl, b1⟩
    rw [Hr.out]
    go_wp2_with fail
    go_ret2
    exact ⟨by rw [he.out]; rfl, b1⟩
  | true =>
    have hl8 := rightR_len hr
    have Hr := Lib.hid hr
    clear hr
    cases hn : nameB id with
    | false =>
      have he : Hid (openR l id lim = .error 8) := by show _ = _; unfold openR; rw [if_neg (by rw [Hr.out]; simp), if_pos hn]
      have Hn := Lib.hid hn
      clear hn
      go_enter Try.func27, Try.ntmps27
      go_wp2_with fail
      with_reducible refine (srsRight _ l _ hv).mono ?_
      rintro e w1 ⟨rfl, b1⟩
      rw [Hr.out]
      go_wp2_with fail
      with_reducible refine (signName _ _).mono ?_
      rintro e w2 ⟨rfl, b2⟩
      rw [Hn.out]
      go_wp2_with fail
      go_ret2
      exact ⟨by rw [he.out]; rfl, b1.trans (b2.mono b1.size)⟩
    | true =>
      have Hn := Lib.hid hn
      have hj00 : Hid (openR l id lim = if lim < 1 ∨ 1099511627776 < lim then .error 1 else if 0 ≤ placeR l id then .error 12 else if 8 ≤ l.length then .error 14 else .ok (l.take (findR l id) ++ ⟨id, 1, lim, false⟩ :: l.drop (findR l id))) := by
        show _ = _; unfold openR; rw [if_neg (by rw [Hr.out]; simp), if_neg (by rw [Hn.out]; simp)]
      clear hn
      go_enter Try.func27, Try.ntmps27
      go_wp2_with fail
      with_reducible refine (srsRight _ l _ hv).mono ?_
      rintro e w1 ⟨rfl, b1⟩
      rw [Hr.out]
      have hv0 := hv.ext b1
      go_wp2_with fail
      with_reducible refine (signName _ _).mono ?_
      rintro e w1 ⟨rfl, b2⟩
      rw [Hn.out]
      have hv1 := hv0.ext b2
      have b1 := b1.trans (b2.mono b1.size)
      clear hv0 b2
      by_cases hlim : lim < 1 ∨ 1099511627776 < lim
      · have he : Hid (openR l id lim = .error 1) := by show _ = _; rw [hj00.out, if_pos hlim]
        rcases hlim with hlim | hlim
        · go_wp2_with fail
          go_ret2
          exact ⟨by rw [he.out]; rfl, b1⟩
        · have hlim1 : ¬ lim < 1 := by omega
          go_wp2_with fail
          go_ret2
          exact ⟨by rw [he.out]; rfl, b1⟩
      · have hj0 : Hid (openR l id lim = if 0 ≤ placeR l id then .error 12 else if 8 ≤ l.length then .error 14 else .ok (l.take (findR l id) ++ ⟨id, 1, lim, false⟩ :: l.drop (findR l id))) := by show _ = _; rw [hj00.out, if_neg hlim]
        have hlim1 : ¬ lim < 1 := by omega
        have hlim2 : ¬ 1099511627776 < lim := by omega
        clear hj00 hlim
        go_wp2_with fail
        with_reducible refine (srsPlace _ l id _ hv1).mono ?_
        rintro e w2 ⟨rfl, b2⟩
        have hv2 := hv1.ext b2
        have b12 := b1.trans (b2.mono b1.size)
        clear hv1 b1 b2
        by_cases hp : 0 ≤ placeR l id
        · have he : Hid (openR l id lim = .error 12) := by show _ = _; rw [hj0.out, if_pos hp]
          go_wp2_with fail
          go_ret2
          exact ⟨by rw [he.out]; rfl, b12⟩
        · by_cases h8 : 8 ≤ l.length
          · have he : Hid (openR l id lim = .error 14) := by show _ = _; rw [hj0.out, if_neg hp, if_pos h8]
            have h8' : (8 : Int) ≤ (l.length : Int) := by omega
            go_wp2_with fail
            go_ret2
            exact ⟨by rw [he.out]; rfl, b12⟩
          · have he : Hid (openR l id lim = .ok (l.take (findR l id) ++ ⟨id, 1, lim, false⟩ :: l.drop (findR l id))) := by show _ = _; rw [hj0.out, if_neg hp, if_neg h8]
            have h8' : ¬ (8 : Int) ≤ (l.length : Int) := by omega
            clear hj0
            go_wp2_with fail
            go_loop [8] (fun i => ∃ k : Nat, k ≤ l.length ∧ i = .int .i64 k ∧ Hid (∀ j (h : j < l.length), j < k → ltS l[j].name id = true)) (fun i => l.length - (intOf i).toNat)
            case atStart => exact ⟨0, by omega, rfl, fun j h hj => by omega⟩
            case round =>
              obtain ⟨k, hk, rfl, hall⟩ := hrel
              by_cases hgo : ∃ h : k < l.length, ltS l[k].name id = true
              · obtain ⟨hlt, hgo⟩ := hgo
                obtain ⟨b, off, rfl⟩ := Rd.blk hv2 (by omega)
                obtain ⟨c0, _⟩ := srs4 hv2 hlt
                have hi : (k : Int) < (l.length : Int) := by omega
                have hall' : Hid (∀ j (h : j < l.length), j < k + 1 → ltS l[j].name id = true) := fun j h hj => by
                  by_cases e : j = k
                  · subst e; exact hgo
                  · exact hall.out j h (by omega)
                generalize l[k] = s at c0 hgo
                have hgb : Op.bytesLess s.name.toList id.toList = true := hgo
                go_wp2_with fail
                go_round
                case rel => exact ⟨k + 1, by omega, by go_num, hall'⟩
                case measure => simp [intOf]; omega
              · have hf : findR l id = k := findR_is hk hall.out (fun h => by cases hx : ltS l[k].name id with | false => rfl | true => exact absurd ⟨h, hx⟩ hgo)
                have He := he.out
                rw [hf] at He
                have He' := Lib.hid He
                have hcase : (¬ (k : Int) < (l.length : Int)) ∨ ((k : Int) < (l.length : Int) ∧ ∃ h : k < l.length, ltS l[k].name id = false) := by
                  by_cases h : k < l.length
                  · exact .inr ⟨by omega, h, by cases hx : ltS l[k].name id with | false => rfl | true => exact absurd ⟨h, hx⟩ hgo⟩
                  · exact .inl (by omega)
                clear hf He he hall
                have hsz := b12.size
                rcases hcase with hi | ⟨hi, hlt, hge⟩
                all_goals
                  first
                  | (obtain ⟨b, off, rfl⟩ := Rd.blk hv2 (by omega)
                     obtain ⟨c0, _⟩ := srs4 hv2 hlt
                     generalize l[k] = s at c0 hge
                     have hgb : Op.bytesLess s.name.toList id.toList = false := hge)
                  | skip
                  clear hgo
                  go_wp2_with fail
                  with_reducible refine (srsCopied _ l _ hv2 (by omega)).mono ?_
                  rintro e w3 ⟨⟨v3, rfl, own3⟩, b3⟩
                  go_wp2_with fail
                  have hsz3 := b3.size
                  have b3' : Below w2.heap.size w2 (w3.alloc (.cells #[.string id, .int .i64 1, .int .i64 lim, .bool false] 66)) := b3.trans ((below_alloc w3 _).mono hsz3)
                  have own3' := own3.ext (below_alloc w3 (.cells #[.string id, .int .i64 1, .int .i64 lim, .bool false] 66))
                  have hne : v3.ownBlock ≠ some w3.heap.size := fun e => by have := (own3.lt _ e).2; omega
                  have hvb : (w3.alloc (.cells #[.string id, .int .i64 1, .int .i64 lim, .bool false] 66)).heap[w3.heap.size]? = some (.cells (srsE.enc ⟨id, 1, lim, false⟩).toArray 66 (0, 0)) := Blk.new _ _ _
                  have hb1 : (l.length + 1) * 40 ≤ 140737488355328 := by omega
                  with_reducible refine (insSrs w2.heap.size w3.heap.size k v3 l ⟨id, 1, lim, false⟩ _ own3' hvb hne hk hb1 b3'.size).mono ?_
                  rintro e w4 ⟨v4, rfl, own4, g4, b4⟩
                  go_wp2_with fail
                  go_ret2
                  exact ⟨by rw [He'.out]; exact ⟨_, rfl, own4.base hsz⟩, b12.trans ((b3'.trans b4).mono hsz)⟩

set_option maxHeartbeats 4000000 in
set_option maxRecDepth 100000 in
theorem srsRefOpen (v : Value) (l : List Srs) (id : ByteArray) (lim : Int) (w : World) (hv : Rd srsE w v l) :
    Calls Try.prog 33 #[v, .string id, .int .i64 lim] w fun e w' => TellsL srsE w' w.heap.size 66 (openR l id lim) e ∧ Below w.heap.size w w' := by
  obtain ⟨p, cap, rfl, h1, h2, h3, h4⟩ := hv.form
  clear h3 h4
  unfold maxLen at h2
  cases hr : rightR l with
  | false =>
    have he : Hid (openR l id lim = .error 1) := by show _ = _; unfold openR; rw [if_pos hr]
    have Hr := Lib.hid hr
    clear hr
    go_enter Try.func33, Try.ntmps33
    go_wp2_with fail
    with_reducible refine (srsRefRight _ l _ hv).mono ?_
    rintro e w1 ⟨rfl, b1⟩
    rw [Hr.out]
    go_wp2_with fail
    go_ret2
    exact ⟨by rw [he.out]; rfl, b1⟩
  | true =>
    have hl8 := rightR_len hr
    have Hr := Lib.hid hr
    clear hr
    cases hn : nameB id with
    | false =>
      have he : Hid (openR l id lim = .error 8) := by show _ = _; unfold openR; rw [if_neg (by rw [Hr.out]; simp), if_pos hn]
      have Hn := Lib.hid hn
      clear hn
      go_enter Try.func33, Try.ntmps33
      go_wp2_with fail
      with_reducible refine (srsRefRight _ l _ hv).mono ?_
      rintro e w1 ⟨rfl, b1⟩
      rw [Hr.out]
      go_wp2_with fail
      with_reducible refine (refName _ _).mono ?_
      rintro e w2 ⟨rfl, b2⟩
      rw [Hn.out]
      go_wp2_with fail
      go_ret2
      exact ⟨by rw [he.out]; rfl, b1.trans (b2.mono b1.size)⟩
    | true =>
      have Hn := Lib.hid hn
      have hj00 : Hid (openR l id lim = if lim < 1 ∨ 1099511627776 < lim then .error 1 else if 0 ≤ placeR l id then .error 12 else if 8 ≤ l.length then .error 14 else .ok (l.take (findR l id) ++ ⟨id, 1, lim, false⟩ :: l.drop (findR l id))) := by
        show _ = _; unfold openR; rw [if_neg (by rw [Hr.out]; simp), if_neg (by rw [Hn.out]; simp)]
      clear hn
      go_enter Try.func33, Try.ntmps33
      go_wp2_with fail
      with_reducible refine (srsRefRight _ l _ hv).mono ?_
      rintro e w1 ⟨rfl, b1⟩
      rw [Hr.out]
      have hv0 := hv.ext b1
      go_wp2_with fail
      with_reducible refine (refName _ _).mono ?_
      rintro e w1 ⟨rfl, b2⟩
      rw [Hn.out]
      have hv1 := hv0.ext b2
      have b1 := b1.trans (b2.mono b1.size)
      clear hv0 b2
      by_cases hlim : lim < 1 ∨ 1099511627776 < lim
      · have he : Hid (openR l id lim = .error 1) := by show _ = _; rw [hj00.out, if_pos hlim]
        rcases hlim with hlim | hlim
        · go_wp2_with fail
          go_ret2
          exact ⟨by rw [he.out]; rfl, b1⟩
        · have hlim1 : ¬ lim < 1 := by omega
          go_wp2_with fail
          go_ret2
          exact ⟨by rw [he.out]; rfl, b1⟩
      · have hj0 : Hid (openR l id lim = if 0 ≤ placeR l id then .error 12 else if 8 ≤ l.length then .error 14 else .ok (l.take (findR l id) ++ ⟨id, 1, lim, false⟩ :: l.drop (findR l id))) := by show _ = _; rw [hj00.out, if_neg hlim]
        have hlim1 : ¬ lim < 1 := by omega
        have hlim2 : ¬ 1099511627776 < lim := by omega
        clear hj00 hlim
        go_wp2_with fail
        with_reducible refine (srsFind0 _ l id _ hv1).mono ?_
        rintro e w' ⟨rfl, rfl⟩
        have hv2 := hv1
        have b12 := b1
        clear hv1 b1
        by_cases hp : 0 ≤ placeR l id
        · have he : Hid (openR l id lim = .error 12) := by show _ = _; rw [hj0.out, if_pos hp]
          go_wp2_with fail
          go_ret2
          exact ⟨by rw [he.out]; rfl, b12⟩
        · by_cases h8 : 8 ≤ l.length
          · have he : Hid (openR l id lim = .error 14) := by show _ = _; rw [hj0.out, if_neg hp, if_pos h8]
            have h8' : (8 : Int) ≤ (l.length : Int) := by omega
            go_wp2_with fail
            go_ret2
            exact ⟨by rw [he.out]; rfl, b12⟩
          · have he : Hid (openR l id lim = .ok (l.take (findR l id) ++ ⟨id, 1, lim, false⟩ :: l.drop (findR l id))) := by show _ = _; rw [hj0.out, if_neg hp, if_neg h8]
            have h8' : ¬ (8 : Int) ≤ (l.length : Int) := by omega
            clear hj0
            go_wp2_with fail
            go_loop [8] (fun i => ∃ k : Nat, k ≤ l.length ∧ i = .int .i64 k ∧ Hid (∀ j (h : j < l.length), j < k → ltS l[j].name id = true)) (fun i => l.length - (intOf i).toNat)
            case atStart => exact ⟨0, by omega, rfl, fun j h hj => by omega⟩
            case round =>
              obtain ⟨k, hk, rfl, hall⟩ := hrel
              by_cases hgo : ∃ h : k < l.length, ltS l[k].name id = true
              · obtain ⟨hlt, hgo⟩ := hgo
                obtain ⟨b, off, rfl⟩ := Rd.blk hv2 (by omega)
                obtain ⟨c0, _⟩ := srs4 hv2 hlt
                have hi : (k : Int) < (l.length : Int) := by omega
                have hall' : Hid (∀ j (h : j < l.length), j < k + 1 → ltS l[j].name id = true) := fun j h hj => by
                  by_cases e : j = k
                  · subst e; exact hgo
                  · exact hall.out j h (by omega)
                generalize l[k] = s at c0 hgo
                have hgb : Op.bytesLess s.name.toList id.toList = true := hgo
                go_wp2_with fail
                go_round
                case rel => exact ⟨k + 1, by omega, by go_num, hall'⟩
                case measure => simp [intOf]; omega
              · have hf : findR l id = k := findR_is hk hall.out (fun h => by cases hx : ltS l[k].name id with | false => rfl | true => exact absurd ⟨h, hx⟩ hgo)
                have He := he.out
                rw [hf] at He
                have He' := Lib.hid He
                have hcase : (¬ (k : Int) < (l.length : Int)) ∨ ((k : Int) < (l.length : Int) ∧ ∃ h : k < l.length, ltS l[k].name id = false) := by
                  by_cases h : k < l.length
                  · exact .inr ⟨by omega, h, by cases hx : ltS l[k].name id with | false => rfl | true => exact absurd ⟨h, hx⟩ hgo⟩
                  · exact .inl (by omega)
                clear hf He he hall
                have hsz := b12.size
                rcases hcase with hi | ⟨hi, hlt, hge⟩
                all_goals
                  first
                  | (obtain ⟨b, off, rfl⟩ := Rd.blk hv2 (by omega)
                     obtain ⟨c0, _⟩ := srs4 hv2 hlt
                     generalize l[k] = s at c0 hge
                     have hgb : Op.bytesLess s.name.toList id.toList = false := hge)
                  | skip
                  clear hgo
                  have hki : (0 : Int) ≤ (k : Int) := by omega
                  have hkl : (k : Int) ≤ (l.length : Int) := by omega
                  have hA := run_sub_to tSrs (P := Try.prog) hv2 .i64 (k : Int) k rfl hk
                  have hB := run_sub_from tSrs (P := Try.prog) hv2 .i64 (k : Int) k rfl hk
                  have rA := hv2.sub 0 k (by omega) hk
                  have rB := hv2.sub k l.length hk (Nat.le_refl _)
                  rw [show (l.drop 0).take (k - 0) = l.take k from by simp, show srsE.sz = 4 from rfl] at rA
                  rw [show (l.drop k).take (l.length - k) = l.drop k from List.take_of_length_le (by simp), show srsE.sz = 4 from rfl] at rB
                  first
                  | generalize subV (.slice p l.length cap) 0 k 4 = vA at *
                  | generalize subV (.slice (some ⟨b, off, none⟩) l.length cap) 0 k 4 = vA at *
                  first
                  | generalize subV (.slice p l.length cap) k l.length 4 = vB at *
                  | generalize subV (.slice (some ⟨b, off, none⟩) l.length cap) k l.length 4 = vB at *
                  go_wp2_with fail
                  have bA : Below w1.heap.size w1 (w1.drew.alloc (.cells #[] 66)) := (below_drew _ _).trans (below_alloc w1.drew _)
                  have bB : Below w1.heap.size w1 ((w1.drew.alloc (.cells #[] 66)).alloc (.cells #[.string id, .int .i64 1, .int .i64 lim, .bool false] 66)) := bA.trans ((below_alloc _ _).mono bA.size)
                  have bC0 : Below w1.heap.size w1 (w1.drew.alloc (.cells #[.string id, .int .i64 1, .int .i64 lim, .bool false] 66)) := (below_drew _ _).trans (below_alloc w1.drew _)
                  have bC : Below w1.heap.size w1 ((w1.drew.alloc (.cells #[.string id, .int .i64 1, .int .i64 lim, .bool false] 66)).alloc (.cells #[] 66)) := bC0.trans ((below_alloc _ _).mono bC0.size)
                  have hSe : (w1.drew.alloc (.cells #[] 66)).heap.size = w1.heap.size + 1 := by show (w1.heap.push _).size = _; simp
                  have hSl : (w1.drew.alloc (.cells #[.string id, .int .i64 1, .int .i64 lim, .bool false] 66)).heap.size = w1.heap.size + 1 := by show (w1.heap.push _).size = _; simp
                  have ownA : OwnR srsE (w1.drew.alloc (.cells #[] 66)) w1.heap.size 66 (.slice (some ⟨w1.heap.size, 0, none⟩) 0 0) [] := OwnR.litAt srsE w1.drew #[] _ [] 0 w1.heap.size w1.heap.size rfl rfl rfl (Nat.zero_le _) (Nat.le_refl _)
                  have ownB := ownA.ext (below_alloc _ (.cells #[.string id, .int .i64 1, .int .i64 lim, .bool false] 66))
                  have ownC : OwnR srsE ((w1.drew.alloc (.cells #[.string id, .int .i64 1, .int .i64 lim, .bool false] 66)).alloc (.cells #[] 66)) w1.heap.size 66 (.slice (some ⟨w1.heap.size + 1, 0, none⟩) 0 0) [] := OwnR.litAt srsE _ #[] _ [] 0 w1.heap.size (w1.heap.size + 1) hSl rfl rfl (Nat.zero_le _) (by omega)
                  have LB : Rd srsE ((w1.drew.alloc (.cells #[] 66)).alloc (.cells #[.string id, .int .i64 1, .int .i64 lim, .bool false] 66)) (.slice (some ⟨w1.heap.size + 1, 0, none⟩) 1 1) [⟨id, 1, lim, false⟩] := OwnR.rd (OwnR.litAt srsE _ _ _ [⟨id, 1, lim, false⟩] 1 0 (w1.heap.size + 1) hSe rfl rfl (by unfold maxLen; omega) (Nat.zero_le _))
                  have LC : Rd srsE ((w1.drew.alloc (.cells #[.string id, .int .i64 1, .int .i64 lim, .bool false] 66)).alloc (.cells #[] 66)) (.slice (some ⟨w1.heap.size, 0, none⟩) 1 1) [⟨id, 1, lim, false⟩] := Rd.ext (OwnR.rd (OwnR.litAt srsE w1.drew _ _ [⟨id, 1, lim, false⟩] 1 0 w1.heap.size rfl rfl rfl (by unfold maxLen; omega) (Nat.zero_le _))) (below_alloc _ _)
                  have hneB : (Value.slice (some ⟨w1.heap.size + 1, 0, none⟩) 1 1).ownBlock ≠ (Value.slice (some ⟨w1.heap.size, 0, none⟩) 0 0).ownBlock := by simp [Value.ownBlock]
                  have hneC : (Value.slice (some ⟨w1.heap.size, 0, none⟩) 1 1).ownBlock ≠ (Value.slice (some ⟨w1.heap.size + 1, 0, none⟩) 0 0).ownBlock := by simp [Value.ownBlock]
                  have HneB := Lib.hid hneB
                  have HneC := Lib.hid hneC
                  have hc1 : (([] : List Srs).length + (l.take k).length) * 40 ≤ 140737488355328 := by simp; omega
                  have hc2 : (([] ++ l.take k).length + [(⟨id, 1, lim, false⟩ : Srs)].length) * 40 ≤ 140737488355328 := by simp; omega
                  have hc3 : (([] ++ l.take k ++ [(⟨id, 1, lim, false⟩ : Srs)]).length + (l.drop k).length) * 40 ≤ 140737488355328 := by simp; omega
                  have Hc1 := Lib.hid hc1
                  have Hc2 := Lib.hid hc2
                  have Hc3 := Lib.hid hc3
                  have HLB := Lib.hid LB
                  have HLC := Lib.hid LC
                  clear hc1 hc2 hc3 hSe hSl hneB hneC LB LC
                  go_region_held3 (fun _ => True) (exact trivial) (first
                    | (refine step_appR (E := srsE) (s := .tmp 48) (y := .tmp 51) (B := w1.heap.size) (l := []) (m := l.take k) tSrs rfl rfl (by first | exact ownA | exact ownB | exact ownC) (by simp [Act.eval, Act.put]) (by first | exact rA.ext bA | exact rA.ext bB | exact rA.ext bC) (by simp [Act.eval, Act.put]) Hc1.out (by first | exact bA.size | exact bB.size | exact bC.size) ?_; intro v8 w8 own8 g8 b8; have b18 : Below w1.heap.size w1 w8 := (by first | exact bA.trans b8 | exact bB.trans b8 | exact bC.trans b8); have L8 : True ∧ (Rd srsE w8 (.slice (some ⟨w1.heap.size + 1, 0, none⟩) 1 1) [⟨id, 1, lim, false⟩] ∨ Rd srsE w8 (.slice (some ⟨w1.heap.size, 0, none⟩) 1 1) [⟨id, 1, lim, false⟩] ∨ True) := (by first | exact ⟨trivial, .inl (HLB.out.grown g8 (.inr HneB.out))⟩ | exact ⟨trivial, .inr (.inl (HLC.out.grown g8 (.inr HneC.out)))⟩ | exact ⟨trivial, .inr (.inr trivial)⟩); clear L8; clear b8)
                    | (refine step_appR (E := srsE) (s := .tmp 52) (y := .tmp 56) (B := w1.heap.size) (l := [] ++ l.take k) (m := [⟨id, 1, lim, false⟩]) tSrs rfl rfl (by first | exact own8 | exact own8.ext (below_alloc _ _)) (by simp [Act.eval, Act.put]) (by first | exact OwnR.rd (OwnR.litAt srsE w8 _ _ [⟨id, 1, lim, false⟩] 1 0 w8.heap.size rfl rfl rfl (by unfold maxLen; omega) (Nat.zero_le _)) | exact HLB.out.grown g8 (.inr HneB.out) | exact HLC.out.grown g8 (.inr HneC.out)) (by simp [Act.eval, Act.put]) Hc2.out (by first | exact b18.size | exact (b18.trans ((below_alloc _ _).mono b18.size)).size) ?_; intro v9 w9 own9 g9 b9; have b19 : Below w1.heap.size w1 w9 := (by first | exact b18.trans b9 | exact (b18.trans ((below_alloc _ _).mono b18.size)).trans b9); have rB9 := rB.ext b19; have hs9 := b19.size; clear g9)
                    | (refine step_appR (E := srsE) (s := .tmp 57) (y := .tmp 60) tSrs rfl rfl own9 (by simp [Act.eval, Act.put]) rB9 (by simp [Act.eval, Act.put]) Hc3.out hs9 ?_; intro v10 w10 own10 g10 b10; clear g10))
                  all_goals
                    go_wp2_with fail
                    go_ret2
                    exact ⟨by rw [He'.out]; exact ⟨_, rfl, by have h := own10.base hsz; rw [List.nil_append, List.append_assoc] at h; exact h⟩, b12.trans ((b19.trans b10).mono hsz)⟩
end Go.Proofs.Ytmchkhofcjgeaaa
