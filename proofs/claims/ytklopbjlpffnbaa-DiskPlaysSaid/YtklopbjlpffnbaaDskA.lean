/- Walks of the disk's quiet functions. -/
import Derived.Test.YtklopbjlpffnbaaDskP
import Derived.Test.YtklopbjlpffnbaaRdAt
namespace Go.Proofs.Ytklopbjlpffnbaa
open Go Go.RowKit BigFrame Go.PlainAid

theorem dskNamed (s : ByteArray) (w : World) (hs : s.size ≤ 4611686018427387904) : Calls Try.prog 29 #[.string s] w fun e w' => e = .returned (.bool (namedD s)) ∧ w = w' := by
  have hb := get_bt s
  have Hn : Hid (namedD s = ((decide (1 ≤ s.size) && decide (s.size ≤ 24)) && allB s (s.size - 0) 0)) := rfl
  go_enter Try.func29, Try.ntmps29
  by_cases h1 : 1 ≤ s.size
  · by_cases h2 : s.size ≤ 24
    · have i1 : (1 : Int) ≤ (s.size : Int) := by omega
      have i2 : (s.size : Int) ≤ 24 := by omega
      have e0 : Hid (namedD s = (true && allB s (s.size - 0) 0)) := by show _ = _; rw [Hn.out, decide_eq_true h1, decide_eq_true h2]; rfl
      clear Hn
      go_wp2
      go_loopw [3, 4] (fun o i wr => ∃ (b : Bool) (k : Nat), o = .bool b ∧ i = .int .i64 k ∧ k ≤ s.size ∧ Hid (namedD s = (b && allB s (s.size - k) k)) ∧ wr = w) (fun _ i _ => s.size - (intOf i).toNat)
      case atStart => exact ⟨true, 0, rfl, rfl, by omega, e0, rfl⟩
      case round =>
        obtain ⟨b, k, rfl, rfl, hk, hrl, rfl⟩ := hrel
        by_cases hlt : k < s.size
        · have hi : (k : Int) < (s.size : Int) := by omega
          cases b with
          | false =>
            go_wp2
            go_ret
            exact ⟨ret_bool (by rw [hrl.out]; rfl), rfl⟩
          | true =>
            have hst := Lib.hid (allB_step hlt)
            by_cases h3 : 33 ≤ bt s k
            · by_cases h4 : bt s k ≤ 126
              · have hnx : Hid (namedD s = (true && allB s (s.size - (k + 1)) (k + 1))) := by show _ = _; rw [hrl.out, hst.out]; unfold okB; rw [decide_eq_true h3, decide_eq_true h4]; rfl
                go_wp2
                go_roundw
                case rel => exact ⟨true, k + 1, rfl, by go_num, by omega, hnx, by trivial⟩
                case measure => simp [intOf]; omega
              · have hnx : Hid (namedD s = (false && allB s (s.size - (k + 1)) (k + 1))) := by show _ = _; rw [hrl.out, hst.out]; unfold okB; rw [decide_eq_true h3, decide_eq_false h4]; rfl
                go_wp2
                go_roundw
                case rel => exact ⟨false, k + 1, rfl, by go_num, by omega, hnx, by trivial⟩
                case measure => simp [intOf]; omega
            · have hnx : Hid (namedD s = (false && allB s (s.size - (k + 1)) (k + 1))) := by show _ = _; rw [hrl.out, hst.out]; unfold okB; rw [decide_eq_false h3]; rfl
              go_wp2
              go_roundw
              case rel => exact ⟨false, k + 1, rfl, by go_num, by omega, hnx, by trivial⟩
              case measure => simp [intOf]; omega
        · have hend := allB_end (s := s) (k := k) (by omega)
          have hi : ¬ (k : Int) < (s.size : Int) := by omega
          go_wp2
          go_ret
          exact ⟨ret_bool (by rw [hrl.out, hend, Bool.and_true]), rfl⟩
    · have i1 : (1 : Int) ≤ (s.size : Int) := by omega
      have i2 : ¬ (s.size : Int) ≤ 24 := by omega
      have i3 : (0 : Int) < (s.size : Int) := by omega
      have e0 : namedD s = false := by rw [Hn.out, decide_eq_false h2, Bool.and_false]; rfl
      clear Hn
      go_wp2
      go_loopw [3, 4] (fun o i wr => o = .bool false ∧ i = .int .i64 0 ∧ wr = w) (fun _ i _ => s.size)
      case atStart => exact ⟨rfl, rfl, rfl⟩
      case round =>
        obtain ⟨rfl, rfl, rfl⟩ := hrel
        go_wp2
        go_ret
        exact ⟨ret_bool e0.symm, rfl⟩
  · have i1 : ¬ (1 : Int) ≤ (s.size : Int) := by omega
    have i3 : ¬ (0 : Int) < (s.size : Int) := by omega
    have e0 : namedD s = false := by rw [Hn.out, decide_eq_false h1]; rfl
    clear Hn
    go_wp2
    go_loopw [3, 4] (fun o i wr => o = .bool false ∧ i = .int .i64 0 ∧ wr = w) (fun _ i _ => s.size)
    case atStart => exact ⟨rfl, rfl, rfl⟩
    case round =>
      obtain ⟨rfl, rfl, rfl⟩ := hrel
      go_wp2
      go_ret
      exact ⟨ret_bool e0.symm, rfl⟩

theorem ent3 {w : World} {b off n c : Nat} {l : List Ent} (h : Rd entE w (.slice (some ⟨b, off, none⟩) n c) l) {k : Nat} (hk : k < l.length) :
    w.cell? ⟨b, off + k * 3, none⟩ = some (.string l[k].name) ∧ w.cell? ⟨b, off + k * 3 + 1, none⟩ = some (.slice l[k].p l[k].data.length l[k].c) ∧ w.cell? ⟨b, off + k * 3 + 2, none⟩ = some (.int .i64 (l[k].kept : Int)) :=
  ⟨h.at_ hk 0 (by decide), h.at_ hk 1 (by decide), h.at_ hk 2 (by decide)⟩
def isN (s : ByteArray) (y : Ent) : Bool := eqS y.name s

theorem dskFindFn (y : Ent) (g : Nat) (s : ByteArray) (w : World) (hc : w.cell? ⟨g, 0, none⟩ = some (.string s)) (hg : g < w.heap.size) :
    Calls Try.prog 48 #[.agg #[.string y.name, .slice y.p y.data.length y.c, .int .i64 (y.kept : Int)], .pointer (some ⟨g, 0, none⟩)] w fun e w' => e = .returned (.bool (isN s y)) ∧ Below w.heap.size w w' := by
  have hne : g ≠ w.heap.size := by omega
  go_enter Try.func48, Try.ntmps48
  go_wp2
  go_ret
  exact ⟨rfl, below_alloc _ _⟩

set_option maxHeartbeats 1000000 in
theorem dskIdx (v : Value) (l : List Ent) (g : Nat) (s : ByteArray) (w : World) (hv : Rd entE w v l) (hg : g < w.heap.size) (hc : w.cell? ⟨g, 0, none⟩ = some (.string s)) :
    Calls Try.prog 47 #[v, .func (.func 48) #[] #[.pointer (some ⟨g, 0, none⟩)]] w fun e w' => e = .returned (.int .i64 (placeBy (isN s) l 0)) ∧ Below w.heap.size w w' := by
  have eg : ∀ args w, (callFunc 48 args).run Try.prog w = .ok (.enter 48 args) w := enters_of Try.func48 (by kernel_rfl) rfl
  obtain ⟨p, cap, rfl, h1, h2, h3, h4⟩ := hv.form
  clear h3 h4
  unfold maxLen at h2
  go_enter Try.func47, Try.ntmps47
  go_wp2
  go_loopw [8] (fun i wr => ∃ k : Nat, k ≤ l.length ∧ i = .int .i64 k ∧ Hid (placeBy (isN s) l 0 = placeBy (isN s) (l.drop k) k) ∧ Below w.heap.size w wr) (fun i _ => l.length - (intOf i).toNat)
  case atStart => exact ⟨0, by omega, rfl, rfl, Below.refl _ _⟩
  case round =>
    obtain ⟨k, hk, rfl, hpl, hb⟩ := hrel
    by_cases hlt : k < l.length
    · obtain ⟨b, off, rfl⟩ := Rd.blk hv (by omega)
      obtain ⟨c0, c1, c2⟩ := ent3 (hv.ext hb) hlt
      have hi : (k : Int) < (l.length : Int) := by omega
      have hcr : wr.cell? ⟨g, 0, none⟩ = some (.string s) := (hb.cell (p := ⟨g, 0, none⟩) hg).trans hc
      have hgr : g < wr.heap.size := Nat.lt_of_lt_of_le hg hb.size
      have hhit := Lib.hid (fun h => placeBy_hit (p := isN s) hlt h)
      have hmiss := Lib.hid (fun h => placeBy_miss (p := isN s) hlt h)
      have hcall := dskFindFn l[k] g s wr hcr hgr
      clear hv hc
      generalize l[k] = y at *
      cases hq : isN s y with
      | true =>
        rw [hq] at hcall
        have Hq := Lib.hid hq
        clear hq
        go_wp2_with (go_at_fn 48; refine hcall.mono ?_; rintro e w' ⟨rfl, hb'⟩)
        go_ret
        exact ⟨ret_int (by rw [hpl.out, hhit.out Hq.out]), hb.trans (hb'.mono hb.size)⟩
      | false =>
        rw [hq] at hcall
        have Hq := Lib.hid hq
        clear hq
        go_wp2_with (go_at_fn 48; refine hcall.mono ?_; rintro e w' ⟨rfl, hb'⟩)
        go_roundw
        case rel => exact ⟨k + 1, by omega, by go_num, hpl.out.trans (hmiss.out Hq.out), hb.trans (hb'.mono hb.size)⟩
        case measure => simp [intOf]; omega
    · go_wp2
      go_ret
      exact ⟨ret_int (by rw [hpl.out, placeBy_end (by omega)]), hb⟩

theorem dskFind (F : Nat → Prop) (g : Nat) (d : Dk) (s : ByteArray) (w : World) (hd : DiskAt w F g d) :
    Calls Try.prog 31 #[.pointer (some ⟨g, 0, none⟩), .string s] w fun e w' => e = .returned (.int .i64 (idxD d.fs s)) ∧ Below w.heap.size w w' := by
  obtain ⟨⟨v, ys, kb, hf, h3, h4, h5⟩, h6, h7⟩ := hd
  have hv := hf.row.rd
  have ca := below_alloc w (.cells #[.string s] 9)
  have hcon := dskIdx v ys w.heap.size s (w.alloc (.cells #[.string s] 9)) (hv.ext ca) (by simp) (by simp)
  have hx : placeBy (isN s) ys 0 = idxD d.fs s := by unfold idxD; rw [← h5]; exact placeBy_map Ent.fil (isN s) (fun _ => rfl) ys 0
  rw [hx] at hcon
  have c0 := (kb.ext ca).cell 0 _ rfl
  obtain ⟨p, cap, rfl⟩ := hv.shape
  go_enter Try.func31, Try.ntmps31
  go_wp2_with (go_at_call 47; refine hcon.mono ?_; rintro e w' ⟨rfl, hb'⟩)
  go_ret
  exact ⟨rfl, ca.trans (hb'.mono (by simp))⟩

theorem dskKnown (F : Nat → Prop) (g : Nat) (d : Dk) (s : ByteArray) (w : World) (hd : DiskAt w F g d) :
    Calls Try.prog 33 #[.pointer (some ⟨g, 0, none⟩), .string s] w fun e w' => e = .returned (.tuple #[.int .i64 (knownD d s).1, .int .i64 (knownD d s).2]) ∧ Below w.heap.size w w' := by
  have hcon := dskFind F g d s w hd
  obtain ⟨⟨v, ys, kb, hf, h3, h4, h5⟩, h6, h7⟩ := hd
  have c1 := kb.cell 1 _ rfl
  have Hk : Hid (knownD d s = if d.off then (0, 18) else if idxD d.fs s < 0 then (0, 11) else (idxD d.fs s, 0)) := rfl
  generalize knownD d s = R at *
  generalize idxD d.fs s = x at *
  obtain ⟨o, ho⟩ : ∃ o, o = d.off := ⟨_, rfl⟩
  rw [← ho] at c1 Hk
  clear kb hf h3 h4 h5 h6 h7 ho
  go_enter Try.func33, Try.ntmps33
  cases o with
  | true =>
    go_wp2
    refine bodyPost_ret (v := .tuple #[.int .i64 0, .int .i64 18]) (by simp [results, Try.results33, go_sem]) rfl ⟨by rw [Hk.out]; simp, Below.refl _ _⟩
  | false =>
    by_cases hx : x < 0
    · have Hx := Lib.hid hx
      go_wp2_with (go_at_call 31; refine hcon.mono ?_; rintro e w' ⟨rfl, hb'⟩)
      go_wp2
      refine bodyPost_ret (v := .tuple #[.int .i64 0, .int .i64 11]) (by simp [results, Try.results33, go_sem]) rfl ⟨by rw [Hk.out]; simp [Hx.out], hb'⟩
    · have Hx := Lib.hid hx
      have hx2 : 0 ≤ x := by omega
      clear hx
      go_wp2_with (go_at_call 31; refine hcon.mono ?_; rintro e w' ⟨rfl, hb'⟩)
      go_wp2
      refine bodyPost_ret (v := .tuple #[.int .i64 x, .int .i64 0]) (by simp [results, Try.results33, go_sem]) rfl ⟨by rw [Hk.out]; simp [show ¬ x < 0 by omega], hb'⟩

theorem dskOff (F : Nat → Prop) (g : Nat) (d : Dk) (w : World) (hd : DiskAt w F g d) :
    Calls Try.prog 17 #[.pointer (some ⟨g, 0, none⟩)] w fun e w' => e = .returned (.bool d.off) ∧ w = w' := by
  obtain ⟨⟨v, ys, kb, hf, h3, h4, h5⟩, h6, h7⟩ := hd
  have c1 := kb.cell 1 _ rfl
  go_enter Try.func17, Try.ntmps17
  go_wp2
  go_ret
  exact ⟨rfl, rfl⟩
end Go.Proofs.Ytklopbjlpffnbaa
