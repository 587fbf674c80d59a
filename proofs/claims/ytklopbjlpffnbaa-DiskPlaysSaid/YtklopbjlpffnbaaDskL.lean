/- The disk's contracts as the laws use them: the blocks of the disk are some that were made since w0 and are none of X. -/
import Derived.Test.YtklopbjlpffnbaaDskH
import Derived.Test.YtklopbjlpffnbaaBookB
namespace Go.Proofs.Ytklopbjlpffnbaa
open Go Go.RowKit BigFrame Go.PlainAid
def Gx (w0 : World) (X : Nat → Prop) (k : Nat) : Prop := w0.heap.size ≤ k ∧ ¬ X k
def DwS (w0 : World) (X : Nat → Prop) (g : Nat) (d : Dk) (w : World) : Prop := (∃ F, DiskAt w F g d ∧ ∀ k, F k → Gx w0 X k) ∧ (∀ k, X k → k < w.heap.size)
def okD (d : Dk) : Bool := decide (d.fs.length ≤ 999999) && (decide (totD d.fs ≤ 4194304) && ((d.fs.all fun f => decide (f.kept ≤ f.data.length)) && (decide (-1 ≤ d.left) && decide (d.left ≤ 9223372036854775807))))
theorem okD_spec {d : Dk} (h : okD d = true) : OkD d ∧ d.fs.length ≤ 999999 := by
  unfold okD at h
  simp only [Bool.and_eq_true, decide_eq_true_eq, List.all_eq_true] at h
  exact ⟨⟨by omega, h.2.1, h.2.2.1, h.2.2.2.1, h.2.2.2.2⟩, h.1⟩
theorem okD_of {d : Dk} (h : OkD d) (h2 : d.fs.length ≤ 999999) : okD d = true := by
  unfold okD
  simp only [Bool.and_eq_true, decide_eq_true_eq, List.all_eq_true]
  exact ⟨h2, h.tot, h.kept, h.lo, h.hi⟩
section
variable {w0 w w' : World} {X Y : Nat → Prop} {g : Nat} {d d' : Dk}
theorem DwS.size (h : DwS w0 X g d w) : w0.heap.size ≤ w.heap.size := by
  obtain ⟨⟨F, h1, h2⟩, _⟩ := h
  have := (h2 g h1.inG).1
  have := h1.lt g h1.inG
  omega
theorem DwS.und {F : Nat → Prop} (h1 : DiskAt w F g d) (h2 : ∀ k, F k → Gx w0 X k) (hx : ∀ k, X k → k < w.heap.size) (h : Und w F g d' w') : DwS w0 X g d' w' ∧ Chg (Gx w0 X) w w' := by
  have hs : w0.heap.size ≤ w.heap.size := DwS.size ⟨⟨F, h1, h2⟩, hx⟩
  refine ⟨⟨⟨_, h.1, fun k hk => ?_⟩, fun k hk => Nat.lt_of_lt_of_le (hx k hk) h.2.size⟩, h.2.mono fun k _ hk => h2 k hk⟩
  rcases hk with hk | hk
  · exact h2 k hk
  · exact ⟨by omega, fun hX => by have := hx k hX; omega⟩
theorem DwS.ext (h : DwS w0 X g d w) (hb : Below w.heap.size w w') : DwS w0 X g d w' := by
  obtain ⟨⟨F, h1, h2⟩, h3⟩ := h
  exact ⟨⟨F, h1.ext hb, h2⟩, fun k hk => Nat.lt_of_lt_of_le (h3 k hk) hb.size⟩
theorem DwS.drewN (h : DwS w0 X g d w) (n : Nat) : DwS w0 X g d (w.drewN n) := h.ext (below_drawn _ _ _)
theorem DwS.drew (h : DwS w0 X g d w) : DwS w0 X g d w.drew := h.ext (below_drew _ _)
theorem DwS.mono (h : DwS w0 X g d w) (hy : ∀ k, Y k → X k) : DwS w0 Y g d w := by
  obtain ⟨⟨F, h1, h2⟩, h3⟩ := h
  exact ⟨⟨F, h1, fun k hk => ⟨(h2 k hk).1, fun hY => (h2 k hk).2 (hy k hY)⟩⟩, fun k hk => h3 k (hy k hk)⟩
/-- what has been made beside the disk is none of it -/
theorem DwS.more (h : DwS w0 X g d w) (hb : Below w.heap.size w w') (hy : ∀ k, Y k → X k ∨ (w.heap.size ≤ k ∧ k < w'.heap.size)) : DwS w0 Y g d w' := by
  obtain ⟨⟨F, h1, h2⟩, h3⟩ := h
  refine ⟨⟨F, h1.ext hb, fun k hk => ⟨(h2 k hk).1, fun hY => ?_⟩⟩, fun k hk => ?_⟩
  · rcases hy k hY with h | h
    · exact (h2 k hk).2 h
    · have := h1.lt k hk; omega
  · rcases hy k hk with h | h
    · exact Nat.lt_of_lt_of_le (h3 k h) hb.size
    · exact h.2
theorem DwS.alloc (h : DwS w0 X g d w) (o : Obj) : DwS w0 (fun k => X k ∨ k = w.heap.size) g d (w.alloc o) :=
  h.more (below_alloc _ _) fun k hk => hk.imp id fun e => by subst e; exact ⟨Nat.le_refl _, by simp⟩
theorem Chg.gx (h : Chg (Gx w0 X) w w') (hs : w0.heap.size ≤ w.heap.size) : Below w0.heap.size w w' := h.below (fun _ hk => hk.1) hs
theorem Chg.gxO {v : Value} (hv : ∀ k, v.ownBlock = some k → k < w0.heap.size ∨ X k) : ∀ k, v.ownBlock = some k → ¬ Gx w0 X k := fun k hk h => by
  rcases hv k hk with h1 | h1
  · have := h.1; omega
  · exact h.2 h1

theorem lNew (w0 w : World) (hs : w0.heap.size ≤ w.heap.size) (X : Nat → Prop) (hx : ∀ k, X k → k < w.heap.size) : Calls Try.prog 9 #[] w fun e w' => e = .returned (.pointer (some ⟨w.heap.size, 0, none⟩)) ∧ DwS w0 X w.heap.size dk0 w' ∧ Below w.heap.size w w' :=
  (dskNew w).mono fun _ w' ⟨h1, h2, h3⟩ => ⟨h1, ⟨⟨_, h2, fun k hk => ⟨by have := hk.1; omega, fun hX => by have := hk.1; have := hx k hX; omega⟩⟩, fun k hk => Nat.lt_of_lt_of_le (hx k hk) h3.size⟩, h3⟩
theorem lAppend (h : DwS w0 X g d w) (ok : okD d = true) {s : ByteArray} {p : List UInt8} {E : Int} (he : appendD d s p = (E, d')) (hs : s.size ≤ 4611686018427387904) {vp : Value} (hp : Bytes w vp p) (hv : p ≠ [] → ∀ k, vp.ownBlock = some k → k < w0.heap.size ∨ X k) :
    Calls Try.prog 12 #[.pointer (some ⟨g, 0, none⟩), .string s, vp] w fun e w' => e = .returned (.int .i64 E) ∧ DwS w0 X g d' w' ∧ Chg (Gx w0 X) w w' := by
  obtain ⟨⟨F, h1, h2⟩, h3⟩ := h
  obtain ⟨o1, o2⟩ := okD_spec ok
  refine (dskAppend h1 o1 o2 s hs vp p hp (fun he k hk hF => Chg.gxO (hv he) k hk (h2 k hF))).mono ?_
  rintro e w' ⟨rfl, hu⟩
  rw [he] at hu ⊢
  exact ⟨rfl, DwS.und h1 h2 h3 hu⟩
theorem lSync (h : DwS w0 X g d w) (ok : okD d = true) {s : ByteArray} {E : Int} (he : syncD d s = (E, d')) :
    Calls Try.prog 15 #[.pointer (some ⟨g, 0, none⟩), .string s] w fun e w' => e = .returned (.int .i64 E) ∧ DwS w0 X g d' w' ∧ Chg (Gx w0 X) w w' := by
  obtain ⟨⟨F, h1, h2⟩, h3⟩ := h
  obtain ⟨o1, o2⟩ := okD_spec ok
  refine (dskSync h1 o1 (by omega) s).mono ?_
  rintro e w' ⟨rfl, hu⟩
  rw [he] at hu ⊢
  exact ⟨rfl, DwS.und h1 h2 h3 hu⟩
theorem lCut (h : DwS w0 X g d w) (ok : okD d = true) {s : ByteArray} {n E : Int} (he : cutD d s n = (E, d')) :
    Calls Try.prog 14 #[.pointer (some ⟨g, 0, none⟩), .string s, .int .i64 n] w fun e w' => e = .returned (.int .i64 E) ∧ DwS w0 X g d' w' ∧ Chg (Gx w0 X) w w' := by
  obtain ⟨⟨F, h1, h2⟩, h3⟩ := h
  obtain ⟨o1, o2⟩ := okD_spec ok
  refine (dskCut h1 o1 (by omega) s n).mono ?_
  rintro e w' ⟨rfl, hu⟩
  rw [he] at hu ⊢
  exact ⟨rfl, DwS.und h1 h2 h3 hu⟩
theorem lRename (h : DwS w0 X g d w) (ok : okD d = true) {s sn : ByteArray} {E : Int} (he : renameD d s sn = (E, d')) (hs : sn.size ≤ 4611686018427387904) :
    Calls Try.prog 13 #[.pointer (some ⟨g, 0, none⟩), .string s, .string sn] w fun e w' => e = .returned (.int .i64 E) ∧ DwS w0 X g d' w' ∧ Chg (Gx w0 X) w w' := by
  obtain ⟨⟨F, h1, h2⟩, h3⟩ := h
  obtain ⟨o1, o2⟩ := okD_spec ok
  refine (dskRename h1 o1 (by omega) s sn hs).mono ?_
  rintro e w' ⟨rfl, hu⟩
  rw [he] at hu ⊢
  exact ⟨rfl, DwS.und h1 h2 h3 hu⟩
theorem lRemove (h : DwS w0 X g d w) (ok : okD d = true) {s : ByteArray} {E : Int} (he : removeD d s = (E, d')) :
    Calls Try.prog 23 #[.pointer (some ⟨g, 0, none⟩), .string s] w fun e w' => e = .returned (.int .i64 E) ∧ DwS w0 X g d' w' ∧ Chg (Gx w0 X) w w' := by
  obtain ⟨⟨F, h1, h2⟩, h3⟩ := h
  obtain ⟨o1, o2⟩ := okD_spec ok
  refine (dskRemove h1 o1 (by omega) s).mono ?_
  rintro e w' ⟨rfl, hu⟩
  rw [he] at hu ⊢
  exact ⟨rfl, DwS.und h1 h2 h3 hu⟩
theorem lArm (h : DwS w0 X g d w) (n : Int) : Calls Try.prog 16 #[.pointer (some ⟨g, 0, none⟩), .int .i64 n] w fun e w' => e = .returned (.tuple #[]) ∧ DwS w0 X g (armD d n) w' ∧ Chg (Gx w0 X) w w' := by
  obtain ⟨⟨F, h1, h2⟩, h3⟩ := h
  refine (dskArm h1 n).mono ?_
  rintro e w' ⟨rfl, hu, hc⟩
  have hc2 : Chg F w w' := hc.mono fun k _ hk => by rw [hk]; exact h1.inG
  exact ⟨rfl, DwS.und h1 h2 h3 ⟨hu.ff hc2.size, hc2⟩⟩
theorem lCrash (h : DwS w0 X g d w) (ok : okD d = true) {picks : List Int} (he : crashD d picks = d') {vp : Value} (hp : Rd intsE w vp picks) (hv : picks ≠ [] → ∀ k, vp.ownBlock = some k → k < w0.heap.size ∨ X k) (hm : ∀ x ∈ picks, x ≤ 9223372036854775807) :
    Calls Try.prog 20 #[.pointer (some ⟨g, 0, none⟩), vp] w fun e w' => e = .returned (.tuple #[]) ∧ DwS w0 X g d' w' ∧ Chg (Gx w0 X) w w' := by
  obtain ⟨⟨F, h1, h2⟩, h3⟩ := h
  obtain ⟨o1, o2⟩ := okD_spec ok
  refine (dskCrash h1 o1 (by omega) vp picks hp (fun he k hk hF => Chg.gxO (hv he) k hk (h2 k hF)) hm).mono ?_
  rintro e w' ⟨rfl, hu⟩
  rw [he] at hu
  exact ⟨rfl, DwS.und h1 h2 h3 hu⟩
theorem lOff (h : DwS w0 X g d w) {b : Bool} (he : d.off = b) : Calls Try.prog 17 #[.pointer (some ⟨g, 0, none⟩)] w fun e w' => e = .returned (.bool b) ∧ w = w' := by
  obtain ⟨⟨F, h1, h2⟩, h3⟩ := h
  subst he
  exact dskOff F g d w h1
theorem lRead (h : DwS w0 X g d w) (ok : okD d = true) (s : ByteArray) {o : Option (List UInt8)} (he : readD d s = o) : Calls Try.prog 19 #[.pointer (some ⟨g, 0, none⟩), .string s] w fun e w' => (∃ r, e = .returned (.tuple #[r, .bool o.isSome]) ∧ OwnB w' w.heap.size 5 r (o.getD [])) ∧ Below w.heap.size w w' := by
  obtain ⟨⟨F, h1, h2⟩, h3⟩ := h
  subst he
  refine (dskRead h1 (okD_spec ok).1.tot s).mono ?_
  rintro e w' ⟨r, rfl, h5, h6⟩
  exact ⟨⟨r, rfl, h5⟩, h6⟩
theorem lNames (h : DwS w0 X g d w) (ok : okD d = true) : Calls Try.prog 27 #[.pointer (some ⟨g, 0, none⟩)] w fun e w' => (∃ r, e = .returned r ∧ OwnR strE w' w.heap.size 9 r (d.fs.map (·.name))) ∧ Below w.heap.size w w' := by
  obtain ⟨⟨F, h1, h2⟩, h3⟩ := h
  refine (dskNames h1 (okD_spec ok).1.len).mono ?_
  rintro e w' ⟨r, rfl, h5, h6⟩
  exact ⟨⟨r, rfl, h5⟩, h6⟩
theorem lTotal (h : DwS w0 X g d w) (ok : okD d = true) : Calls Try.prog 28 #[.pointer (some ⟨g, 0, none⟩)] w fun e w' => e = .returned (.int .i64 (totD d.fs : Nat)) ∧ Below w.heap.size w w' := by
  obtain ⟨⟨F, h1, h2⟩, h3⟩ := h
  exact dskTotal h1 (Nat.le_trans (okD_spec ok).1.tot (by decide))
end
end Go.Proofs.Ytklopbjlpffnbaa
