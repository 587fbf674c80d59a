/- Walks of the document's disk: NewDisk, Name, at, power, Arm, Total, Read. -/
import Derived.Test.YtklopbjlpffnbaaRfP
namespace Go.Proofs.Ytklopbjlpffnbaa
open Go Go.RowKit BigFrame Go.PlainAid
attribute [local go_sem] After.same
theorem refNew (w : World) : Calls Try.prog 24 #[] w fun e w' => e = .returned (.pointer (some ⟨w.heap.size, 0, none⟩)) ∧ RefAt w' (fun k => w.heap.size ≤ k ∧ k < w'.heap.size) w.heap.size dk0 ∧ Below w.heap.size w w' := by
  have kb := Blk.new w #[.slice none 0 0, .int .i64 (-1), .bool false] 72
  have hz : RefAt (w.alloc (.cells #[.slice none 0 0, .int .i64 (-1), .bool false] 72)) (fun k => w.heap.size ≤ k ∧ k < (w.alloc (.cells #[.slice none 0 0, .int .i64 (-1), .bool false] 72)).heap.size) w.heap.size dk0 := by
    refine RefV.at_ (v := .slice none 0 0) (ys := []) ⟨kb, ⟨OwnR.nil _ _ _, by simp, by simp, by simp, by simp [Value.ownBlock], by simp⟩, by simp [Value.ownBlock], by simp, ⟨Nat.le_refl _, kb.lt⟩, fun k h => h.2⟩ rfl
  have Hz := Lib.hid hz
  clear hz kb
  go_enter Try.func24, Try.ntmps24
  go_wp2
  go_ret
  exact ⟨rfl, Hz.out, below_alloc _ _⟩
theorem empty_iff {s : ByteArray} : s.toList = [] ↔ s.size = 0 := by
  rw [ByteArray.toList_eq]
  constructor
  · intro h
    have h2 := congrArg List.length h
    simpa using h2
  · intro h
    apply List.eq_nil_of_length_eq_zero
    simpa using h
theorem refNamed (s : ByteArray) (w : World) (hs : s.size ≤ 4611686018427387904) : Calls Try.prog 50 #[.string s] w fun e w' => e = .returned (.bool (namedD s)) ∧ w = w' := by
  have hb := get_bt s
  have Hn : Hid (namedD s = ((decide (1 ≤ s.size) && decide (s.size ≤ 24)) && allB s (s.size - 0) 0)) := rfl
  go_enter Try.func50, Try.ntmps50
  by_cases h1 : s.size = 0
  · have hnil : s.toList = [] := empty_iff.2 h1
    have e0 : namedD s = false := by rw [Hn.out, decide_eq_false (by omega)]; rfl
    clear Hn
    go_wp2
    go_ret
    exact ⟨ret_bool e0.symm, rfl⟩
  · have hnil : (s.toList == []) = false := beq_eq_false_iff_ne.2 (fun h => h1 (empty_iff.1 h))
    by_cases h2 : 24 < s.size
    · have i2 : (24 : Int) < (s.size : Int) := by omega
      have e0 : namedD s = false := by rw [Hn.out, decide_eq_false (show ¬ s.size ≤ 24 by omega)]; simp
      clear Hn
      go_wp2
      go_ret
      exact ⟨ret_bool e0.symm, rfl⟩
    · have i2 : ¬ (24 : Int) < (s.size : Int) := by omega
      have e0 : Hid (namedD s = allB s (s.size - 0) 0) := by show _ = _; rw [Hn.out, decide_eq_true (show 1 ≤ s.size by omega), decide_eq_true (show s.size ≤ 24 by omega)]; rfl
      clear Hn
      go_wp2
      go_loopw [3] (fun i wr => ∃ (k : Nat), i = .int .i64 k ∧ k ≤ s.size ∧ Hid (namedD s = allB s (s.size - k) k) ∧ wr = w) (fun i _ => s.size - (intOf i).toNat)
      case atStart => exact ⟨0, rfl, by omega, e0, rfl⟩
      case round =>
        obtain ⟨k, rfl, hk, hrl, rfl⟩ := hrel
        by_cases hlt : k < s.size
        · have hi : (k : Int) < (s.size : Int) := by omega
          have hst := Lib.hid (allB_step hlt)
          by_cases h3 : 33 ≤ bt s k
          · by_cases h4 : bt s k ≤ 126
            · have hnx : Hid (namedD s = allB s (s.size - (k + 1)) (k + 1)) := by show _ = _; rw [hrl.out, hst.out]; unfold okB; rw [decide_eq_true h3, decide_eq_true h4]; rfl
              have h3n : ¬ bt s k < 33 := by omega
              have h4n : ¬ 126 < bt s k := by omega
              clear hnil h1 h2 i2
              go_wp2
              go_roundw
              case rel => exact ⟨k + 1, by go_num, by omega, hnx, by trivial⟩
              case measure => simp [intOf]; omega
            · have hnx : namedD s = false := by rw [hrl.out, hst.out]; unfold okB; rw [decide_eq_true h3, decide_eq_false h4]; rfl
              have h3n : ¬ bt s k < 33 := by omega
              have h4n : 126 < bt s k := by omega
              have Hnx := Lib.hid hnx
              clear hnil h1 h2 i2 hnx
              go_wp2
              go_ret
              exact ⟨ret_bool Hnx.out.symm, rfl⟩
          · have hnx : namedD s = false := by rw [hrl.out, hst.out]; unfold okB; rw [decide_eq_false h3]; rfl
            have h3n : bt s k < 33 := by omega
            have Hnx := Lib.hid hnx
            clear hnil h1 h2 i2 hnx
            go_wp2
            go_ret
            exact ⟨ret_bool Hnx.out.symm, rfl⟩
        · have hend := allB_end (s := s) (k := k) (by omega)
          have hi : ¬ (k : Int) < (s.size : Int) := by omega
          clear hnil h1 h2 i2
          go_wp2
          go_ret
          exact ⟨ret_bool (by rw [hrl.out, hend]), rfl⟩
theorem refAt {F : Nat → Prop} {g : Nat} {d : Dk} (s : ByteArray) (w : World) (hd : RefAt w F g d) :
    Calls Try.prog 52 #[.pointer (some ⟨g, 0, none⟩), .string s] w fun e w' => e = .returned (.int .i64 (idxD d.fs s)) ∧ w = w' := by
  obtain ⟨v, ys, hv, hy⟩ := hd
  have hx : placeBy (isN s) ys 0 = idxD d.fs s := by unfold idxD; rw [← hy]; exact placeBy_map Ent.fil (isN s) (fun _ => rfl) ys 0
  rw [← hx]
  have rv := hv.fil.row.rd
  have c0 := hv.blk.cell 0 _ rfl
  clear hv hy hx
  obtain ⟨p, cap, rfl, h1, h2, h3, h4⟩ := rv.form
  clear h3 h4
  unfold maxLen at h2
  go_enter Try.func52, Try.ntmps52
  go_wp2
  go_loopw [5] (fun i wr => ∃ k : Nat, k ≤ ys.length ∧ i = .int .i64 k ∧ Hid (placeBy (isN s) ys 0 = placeBy (isN s) (ys.drop k) k) ∧ wr = w) (fun i _ => ys.length - (intOf i).toNat)
  case atStart => exact ⟨0, by omega, rfl, rfl, rfl⟩
  case round =>
    obtain ⟨k, hk, rfl, hpl, rfl⟩ := hrel
    by_cases hlt : k < ys.length
    · obtain ⟨b, off, rfl⟩ := Rd.blk rv (by omega)
      obtain ⟨e0, e1, e2⟩ := ent3 rv hlt
      have hi : (k : Int) < (ys.length : Int) := by omega
      have hi0 : (0 : Int) ≤ (k : Int) := by omega
      have hhit := Lib.hid (fun h => placeBy_hit (p := isN s) hlt h)
      have hmiss := Lib.hid (fun h => placeBy_miss (p := isN s) hlt h)
      clear rv
      generalize ys[k] = y at *
      cases hq : isN s y with
      | true =>
        have Hq := Lib.hid hq
        have hq2 : y.name.toList = s.toList := by simpa [isN, eqS] using hq
        clear hq
        go_wp2
        go_ret
        exact ⟨ret_int (by rw [hpl.out, hhit.out Hq.out]), rfl⟩
      | false =>
        have Hq := Lib.hid hq
        have hq2 : (y.name.toList == s.toList) = false := hq
        clear hq
        go_wp2
        go_roundw
        case rel => exact ⟨k + 1, by omega, by go_num, hpl.out.trans (hmiss.out Hq.out), by trivial⟩
        case measure => simp [intOf]; omega
    · have hi : ¬ (k : Int) < (ys.length : Int) := by omega
      go_wp2
      go_ret
      exact ⟨ret_int (by rw [hpl.out, placeBy_end (by omega)]), rfl⟩
theorem refPower {F : Nat → Prop} {g : Nat} {d : Dk} {w : World} (hd : RefAt w F g d) (h1 : -1 ≤ d.left) (h2 : d.left ≤ 9223372036854775807) :
    Calls Try.prog 51 #[.pointer (some ⟨g, 0, none⟩)] w fun e w' => e = .returned (.bool (powD d).1) ∧ RefAt w' F g (powD d).2 ∧ Chg F w w' := by
  obtain ⟨v, ys, hv, hy⟩ := hd
  have c1 := hv.blk.cell 1 _ rfl
  have c2 := hv.blk.cell 2 _ rfl
  have f1 := hv.blk.frozen 1
  have f2 := hv.blk.frozen 2
  rcases Int.lt_trichotomy d.left 0 with h | h | h
  · have hz : RefAt w F g (powD d).2 ∧ Chg F w w := by
      refine ⟨⟨v, ys, ?_, ?_⟩, Chg.refl _ _⟩
      · have e : powD d = (true, { d with left := d.left }) := by unfold powD; rw [if_neg (by omega), if_neg (by omega)]
        rw [e]; exact hv
      · rw [powD_fs]; exact hy
    have e1 : (powD d).1 = true := by unfold powD; rw [if_neg (by omega)]
    rw [e1]
    have Hz := Lib.hid hz
    have n1 : ¬ d.left = 0 := by omega
    have n2 : ¬ 0 < d.left := by omega
    clear hz e1 hv hy h
    generalize d.left = n at *
    go_enter Try.func51, Try.ntmps51
    go_wp2
    go_ret
    exact ⟨rfl, Hz.out.1, Hz.out.2⟩
  · have s1 := hv.setCell 2 (.bool true) rfl
    have hz : RefAt (w.setCell ⟨g, 2, none⟩ (.bool true)) F g (powD d).2 ∧ Chg F w (w.setCell ⟨g, 2, none⟩ (.bool true)) := by
      refine ⟨⟨v, ys, ?_, ?_⟩, s1.2.mono fun k _ hk => by rw [hk]; exact hv.inG⟩
      · have e : powD d = (false, { d with off := true }) := by unfold powD; rw [if_pos h]
        rw [e]; exact s1.1
      · rw [powD_fs]; exact hy
    have e1 : (powD d).1 = false := by unfold powD; rw [if_pos h]
    rw [e1]
    have Hz := Lib.hid hz
    clear hz e1 hv hy s1
    generalize d.left = n at *
    subst h
    go_enter Try.func51, Try.ntmps51
    go_wp2
    go_ret
    exact ⟨rfl, Hz.out.1, Hz.out.2⟩
  · have s1 := hv.setCell 1 (.int .i64 (d.left - 1)) rfl
    have hz : RefAt (w.setCell ⟨g, 1, none⟩ (.int .i64 (d.left - 1))) F g (powD d).2 ∧ Chg F w (w.setCell ⟨g, 1, none⟩ (.int .i64 (d.left - 1))) := by
      refine ⟨⟨v, ys, ?_, ?_⟩, s1.2.mono fun k _ hk => by rw [hk]; exact hv.inG⟩
      · have e : powD d = (true, { d with left := d.left - 1 }) := by unfold powD; rw [if_neg (by omega), if_pos h]
        rw [e]; exact s1.1
      · rw [powD_fs]; exact hy
    have e1 : (powD d).1 = true := by unfold powD; rw [if_neg (by omega)]
    rw [e1]
    have Hz := Lib.hid hz
    have n1 : ¬ d.left = 0 := by omega
    clear hz e1 hv hy s1
    generalize d.left = n at *
    go_enter Try.func51, Try.ntmps51
    go_wp2
    go_ret
    exact ⟨rfl, Hz.out.1, Hz.out.2⟩
theorem refArm {F : Nat → Prop} {g : Nat} {d : Dk} {w : World} (hd : RefAt w F g d) (n : Int) :
    Calls Try.prog 41 #[.pointer (some ⟨g, 0, none⟩), .int .i64 n] w fun e w' => e = .returned (.tuple #[]) ∧ RefAt w' F g (armD d n) ∧ Chg F w w' := by
  obtain ⟨v, ys, hv, hy⟩ := hd
  have f1 := hv.blk.frozen 1
  have c1 := hv.blk.cell 1 _ rfl
  have main : ∀ m : Int, (armD d n).left = m → RefAt (w.setCell ⟨g, 1, none⟩ (.int .i64 m)) F g (armD d n) ∧ Chg F w (w.setCell ⟨g, 1, none⟩ (.int .i64 m)) := fun m hm => by
    have s1 := hv.setCell 1 (.int .i64 m) rfl
    refine ⟨⟨v, ys, ?_, hy⟩, s1.2.mono fun k _ hk => by rw [hk]; exact hv.inG⟩
    rw [hm]; exact s1.1
  by_cases h : n < 0
  · have Hz := Lib.hid (main (-1) (if_pos h))
    clear main hv
    go_enter Try.func41, Try.ntmps41
    go_wp2
    go_end0
    exact ⟨rfl, Hz.out.1, Hz.out.2⟩
  · have Hz := Lib.hid (main n (if_neg h))
    clear main hv
    go_enter Try.func41, Try.ntmps41
    go_wp2
    go_end0
    exact ⟨rfl, Hz.out.1, Hz.out.2⟩
theorem refTotal {F : Nat → Prop} {g : Nat} {d : Dk} {w : World} (hd : RefAt w F g d) (ht : totD d.fs ≤ 4611686018427387904) :
    Calls Try.prog 45 #[.pointer (some ⟨g, 0, none⟩)] w fun e w' => e = .returned (.int .i64 (totD d.fs)) ∧ w = w' := by
  obtain ⟨v, ys, hv, hy⟩ := hd
  rw [← hy] at ht ⊢
  clear hy
  have rv := hv.fil.row.rd
  have c0 := hv.blk.cell 0 _ rfl
  clear hv
  obtain ⟨p, cap, rfl, h1, h2, h3, h4⟩ := rv.form
  clear h3 h4
  unfold maxLen at h2
  go_enter Try.func45, Try.ntmps45
  go_wp2
  go_loopw [3, 4] (fun n i wr => ∃ k : Nat, k ≤ ys.length ∧ i = .int .i64 k ∧ n = .int .i64 ((totD ((ys.map Ent.fil).take k) : Nat) : Int) ∧ wr = w) (fun _ i _ => ys.length - (intOf i).toNat)
  case atStart => exact ⟨0, by omega, rfl, by simp [totD], rfl⟩
  case round =>
    obtain ⟨k, hk, rfl, rfl, rfl⟩ := hrel
    by_cases hlt : k < ys.length
    · obtain ⟨b, off, rfl⟩ := Rd.blk rv (by omega)
      obtain ⟨c0, c1, c2⟩ := ent3 rv hlt
      have hi : (k : Int) < (ys.length : Int) := by omega
      have hi0 : (0 : Int) ≤ (k : Int) := by omega
      have hst := totD_take (l := ys.map Ent.fil) (k := k) (by simpa using hlt)
      rw [fil_get] at hst
      have hle := totD_take_le (ys.map Ent.fil) (k + 1)
      have hyd : (ys[k]).fil.data.length = (ys[k]).data.length := rfl
      rw [hyd] at hst
      rw [hst] at hle
      have Hst := Lib.hid hst
      clear hst hyd rv
      generalize totD ((ys.map Ent.fil).take k) = T at *
      generalize ys[k] = y at *
      have q1 : (0 : Int) ≤ (T : Int) := by omega
      have q2 : (T : Int) + (y.data.length : Int) ≤ 4611686018427387904 := by omega
      have q3 : (0 : Int) ≤ (y.data.length : Int) := by omega
      clear hle ht
      go_wp2
      go_roundw
      case rel => exact ⟨k + 1, by omega, by go_num, by rw [Hst.out]; go_num, by trivial⟩
      case measure => simp [intOf]; omega
    · have hkl : k = ys.length := by omega
      have hi : ¬ (k : Int) < (ys.length : Int) := by omega
      have Hk := Lib.hid hkl
      clear hkl
      go_wp2
      go_ret
      exact ⟨ret_int (by rw [Hk.out, List.take_of_length_le (by simp)]), rfl⟩
theorem refNames {F : Nat → Prop} {g : Nat} {d : Dk} {w : World} (hd : RefAt w F g d) (hl : d.fs.length ≤ 1000000) :
    Calls Try.prog 43 #[.pointer (some ⟨g, 0, none⟩)] w fun e w' => ∃ r, e = .returned r ∧ OwnR strE w' w.heap.size 9 r (d.fs.map (·.name)) ∧ Below w.heap.size w w' := by
  obtain ⟨v, ys, hv, hy⟩ := hd
  rw [← hy] at hl ⊢
  rw [List.length_map] at hl
  clear hy
  have rv := hv.fil.row.rd
  have c0 := hv.blk.cell 0 _ rfl
  have hgl := hv.lt g hv.inG
  clear hv
  obtain ⟨p, cap, rfl⟩ := rv.shape
  have Hn : Hid ((ys.map Ent.fil).map (·.name) = ys.map (·.name)) := by show _ = _; rw [List.map_map]; rfl
  go_enter Try.func43, Try.ntmps43
  go_wp2
  go_loopw [3, 4] (fun n i wr => ∃ k : Nat, k ≤ ys.length ∧ i = .int .i64 k ∧ OwnR strE wr w.heap.size 9 n ((ys.map (·.name)).take k) ∧ Below w.heap.size w wr) (fun _ i _ => ys.length - (intOf i).toNat)
  case atStart => exact ⟨0, by omega, rfl, OwnR.nil _ _ _, Below.refl _ _⟩
  case round =>
    obtain ⟨k, hk, rfl, own, hb⟩ := hrel
    have k0 := (hb.cell (p := ⟨g, 0, none⟩) hgl).trans c0
    by_cases hlt : k < ys.length
    · obtain ⟨b, off, rfl⟩ := Rd.blk rv (by omega)
      obtain ⟨e0, e1, e2⟩ := ent3 (rv.ext hb) hlt
      have hi : (k : Int) < (ys.length : Int) := by omega
      have hi0 : (0 : Int) ≤ (k : Int) := by omega
      have hst : (ys.map (·.name)).take (k + 1) = (ys.map (·.name)).take k ++ [(ys[k]).name] := by rw [List.take_succ_eq_append_getElem (by simpa using hlt)]; simp
      have hlk : ((ys.map (·.name)).take k).length ≤ 1000000 := by rw [List.length_take, List.length_map]; omega
      have Hst := Lib.hid hst
      clear hst rv c0
      generalize (ys.map (·.name)).take k = T at *
      generalize ys[k] = y at *
      have cb := below_alloc wr (.cells #[.string y.name] 9)
      have lit := OwnR.litAt strE wr #[.string y.name] 9 [y.name] 1 0 wr.heap.size rfl rfl rfl (by unfold maxLen; omega) (Nat.zero_le _)
      have own3 := own.ext cb
      have hb3 := hb.trans (cb.mono hb.size)
      obtain ⟨pn, cn, rfl⟩ := own3.rd.shape
      go_wp2_with (first | (at_builtin; refine wpList_appR (E := strE) tStr rfl rfl own3 rfl lit.rd rfl (by simp; omega) hb3.size ?_; intro v4 w4 own4 g4 b4) | fail)
      go_roundw
      case rel => exact ⟨k + 1, by omega, by go_num, by rw [Hst.out]; exact own4, hb3.trans (b4.mono (Nat.le_refl _))⟩
      case measure => simp [intOf]; omega
    · have hkl : k = ys.length := by omega
      have hi : ¬ (k : Int) < (ys.length : Int) := by omega
      have Hk := Lib.hid hkl
      clear hkl
      go_wp2
      go_ret
      exact ⟨_, rfl, by rw [Hk.out, List.take_of_length_le (by simp)] at own; exact own, hb⟩
theorem refRead {F : Nat → Prop} {g : Nat} {d : Dk} {w : World} (hd : RefAt w F g d) (s : ByteArray) :
    Calls Try.prog 46 #[.pointer (some ⟨g, 0, none⟩), .string s] w fun e w' => (∃ r, e = .returned (.tuple #[r, .bool (readD d s).isSome]) ∧ Bytes w' r ((readD d s).getD [])) ∧ w = w' := by
  have hat := refAt s w hd
  obtain ⟨v, ys, hv, hy⟩ := hd
  rcases idxD_spec d.fs s with ⟨hx, _⟩ | ⟨j, hj, hx, _, _⟩
  · have hr : readD d s = none := by unfold readD; rw [if_pos (by omega)]
    have Hr := Lib.hid hr
    rw [hx] at hat
    clear hr hx hv hy
    go_enter Try.func46, Try.ntmps46
    go_wp2_with (go_at_call 52; refine hat.mono ?_; rintro e w' ⟨rfl, rfl⟩)
    go_ret2
    exact ⟨⟨_, by rw [Hr.out]; rfl, by rw [Hr.out]; exact Bytes.nil _⟩, rfl⟩
  · have hjy : j < ys.length := by rw [← hy, List.length_map] at hj; exact hj
    have hfj : d.fs[j]? = some (ys[j]).fil := by rw [← hy, List.getElem?_map, List.getElem?_eq_getElem hjy]; rfl
    have hr : readD d s = some (ys[j]).data := by unfold readD; rw [if_neg (by omega), hx, Int.toNat_natCast, hfj]; rfl
    have Hr := Lib.hid hr
    rw [hx] at hat
    have hdat := (hv.fil.data _ (List.getElem_mem hjy)).bytes
    have rv := hv.fil.row.rd
    have c0 := hv.blk.cell 0 _ rfl
    have hji : (j : Int) < (ys.length : Int) := by omega
    have hj0 : (0 : Int) ≤ (j : Int) := by omega
    obtain ⟨p, cap, rfl⟩ := rv.shape
    obtain ⟨b, off, rfl⟩ := Rd.blk rv (by omega)
    obtain ⟨e0, e1, e2⟩ := ent3 rv hjy
    clear hr hx hy hfj hv rv
    generalize ys[j] = y at *
    have hdat' : Bytes w (.slice y.p y.data.length y.c) y.data := hdat
    clear hdat
    go_enter Try.func46, Try.ntmps46
    go_wp2_with (go_at_call 52; refine hat.mono ?_; rintro e w' ⟨rfl, rfl⟩)
    go_ret2
    exact ⟨⟨_, by rw [Hr.out]; rfl, by rw [Hr.out]; exact hdat'⟩, rfl⟩
end Go.Proofs.Ytklopbjlpffnbaa
