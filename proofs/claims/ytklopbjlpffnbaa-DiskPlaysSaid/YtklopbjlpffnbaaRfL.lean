/- Both disks in one world: the calls as DiskPlays uses them. -/
import Derived.Test.YtklopbjlpffnbaaRfH
import Derived.Test.YtklopbjlpffnbaaDskL
namespace Go.Proofs.Ytklopbjlpffnbaa
open Go Go.RowKit BigFrame Go.PlainAid
def Two (w0 : World) (X : Nat → Prop) (gD gR : Nat) (d dR : Dk) (w : World) : Prop := (∃ FD FR, DiskAt w FD gD d ∧ RefAt w FR gR dR ∧ (∀ k, FD k → Gx w0 X k) ∧ (∀ k, FR k → Gx w0 X k) ∧ (∀ k, FD k → ¬ FR k)) ∧ ∀ k, X k → k < w.heap.size
section
variable {w0 w w' : World} {X Y : Nat → Prop} {gD gR : Nat} {d dR d' : Dk}
theorem Two.size (h : Two w0 X gD gR d dR w) : w0.heap.size ≤ w.heap.size := by
  obtain ⟨⟨FD, FR, h1, h2, h3, h4, h5⟩, _⟩ := h
  have := (h3 gD h1.inG).1; have := h1.lt gD h1.inG; omega
theorem Two.more (h : Two w0 X gD gR d dR w) (hb : Below w.heap.size w w') (hy : ∀ k, Y k → X k ∨ (w.heap.size ≤ k ∧ k < w'.heap.size)) : Two w0 Y gD gR d dR w' := by
  obtain ⟨⟨FD, FR, h1, h2, h3, h4, h5⟩, h6⟩ := h
  refine ⟨⟨FD, FR, h1.ext hb, h2.ext hb, fun k hk => ⟨(h3 k hk).1, fun hY => ?_⟩, fun k hk => ⟨(h4 k hk).1, fun hY => ?_⟩, h5⟩, fun k hk => ?_⟩
  · rcases hy k hY with h | h
    · exact (h3 k hk).2 h
    · have := h1.lt k hk; omega
  · rcases hy k hY with h | h
    · exact (h4 k hk).2 h
    · have := h2.lt k hk; omega
  · rcases hy k hk with h | h
    · exact Nat.lt_of_lt_of_le (h6 k h) hb.size
    · exact h.2
theorem Two.ext (h : Two w0 X gD gR d dR w) (hb : Below w.heap.size w w') : Two w0 X gD gR d dR w' := h.more hb fun _ hk => .inl hk
theorem Two.mono (h : Two w0 X gD gR d dR w) (hy : ∀ k, Y k → X k) : Two w0 Y gD gR d dR w := h.more (Below.refl _ _) fun k hk => .inl (hy k hk)
theorem Two.alloc (h : Two w0 X gD gR d dR w) (o : Obj) : Two w0 (fun k => X k ∨ k = w.heap.size) gD gR d dR (w.alloc o) :=
  h.more (below_alloc _ _) fun k hk => hk.imp id fun e => by subst e; exact ⟨Nat.le_refl _, by simp⟩
theorem Two.onD (h : Two w0 X gD gR d dR w) : ∃ FD, DiskAt w FD gD d ∧ (∀ k, FD k → Gx w0 X k) ∧ ∀ d' w', Und w FD gD d' w' → Two w0 X gD gR d' dR w' ∧ Chg (Gx w0 X) w w' := by
  have hs := h.size
  obtain ⟨⟨FD, FR, h1, h2, h3, h4, h5⟩, h6⟩ := h
  refine ⟨FD, h1, h3, fun d' w' hu => ⟨⟨⟨FF FD w w', FR, hu.1, h2.chg hu.2 (fun k hk hF => h5 k hF hk), fun k hk => ?_, h4, fun k hk hR => ?_⟩, fun k hk => Nat.lt_of_lt_of_le (h6 k hk) hu.2.size⟩, hu.2.mono fun k _ hk => h3 k hk⟩⟩
  · rcases hk with hk | hk
    · exact h3 k hk
    · exact ⟨by omega, fun hX => by have := h6 k hX; omega⟩
  · rcases hk with hk | hk
    · exact h5 k hk hR
    · have := h2.lt k hR; omega
theorem Two.onR (h : Two w0 X gD gR d dR w) : ∃ FR, RefAt w FR gR dR ∧ (∀ k, FR k → Gx w0 X k) ∧ ∀ d' w', UndR w FR gR d' w' → Two w0 X gD gR d d' w' ∧ Chg (Gx w0 X) w w' := by
  have hs := h.size
  obtain ⟨⟨FD, FR, h1, h2, h3, h4, h5⟩, h6⟩ := h
  refine ⟨FR, h2, h4, fun d' w' hu => ⟨⟨⟨FD, FF FR w w', h1.chg hu.2 h5, hu.1, h3, fun k hk => ?_, fun k hk hR => ?_⟩, fun k hk => Nat.lt_of_lt_of_le (h6 k hk) hu.2.size⟩, hu.2.mono fun k _ hk => h4 k hk⟩⟩
  · rcases hk with hk | hk
    · exact h4 k hk
    · exact ⟨by omega, fun hX => by have := h6 k hX; omega⟩
  · rcases hR with hR | hR
    · exact h5 k hk hR
    · have := h1.lt k hk; omega
theorem old_out {F : Nat → Prop} {v : Value} (h3 : ∀ k, F k → Gx w0 X k) {A : Prop} (hv : A → ∀ k, v.ownBlock = some k → k < w0.heap.size) : A → ∀ k, v.ownBlock = some k → ¬ F k := fun hx k hk hF => by
  have := hv hx k hk; have := (h3 k hF).1; omega
theorem tAppendD (h : Two w0 X gD gR d dR w) (ok : okD d = true) {s : ByteArray} {p : List UInt8} (hs : s.size ≤ 4611686018427387904) (hpb : p.length ≤ 4611686018427387904) {vp : Value} (hp : Bytes w vp p) (hv : p ≠ [] → ∀ k, vp.ownBlock = some k → k < w0.heap.size) {E : Int} (he : appendD d s p = (E, d')) :
    Calls Try.prog 12 #[.pointer (some ⟨gD, 0, none⟩), .string s, vp] w fun e w' => e = .returned (.int .i64 E) ∧ Two w0 X gD gR d' dR w' ∧ Chg (Gx w0 X) w w' := by
  obtain ⟨F, h1, h3, h6⟩ := h.onD
  obtain ⟨o1, o2⟩ := okD_spec ok
  refine (dskAppend h1 o1 (by omega) s hs vp p hp (old_out h3 hv)).mono ?_
  rintro e w' ⟨rfl, hu⟩
  rw [he] at hu ⊢
  exact ⟨rfl, h6 _ _ hu⟩
theorem tAppendR (h : Two w0 X gD gR d dR w) (ok : okD dR = true) {s : ByteArray} {p : List UInt8} (hs : s.size ≤ 4611686018427387904) (hpb : p.length ≤ 4611686018427387904) {vp : Value} (hp : Bytes w vp p) (hv : p ≠ [] → ∀ k, vp.ownBlock = some k → k < w0.heap.size) {E : Int} (he : appendD dR s p = (E, d')) :
    Calls Try.prog 36 #[.pointer (some ⟨gR, 0, none⟩), .string s, vp] w fun e w' => e = .returned (.int .i64 E) ∧ Two w0 X gD gR d d' w' ∧ Chg (Gx w0 X) w w' := by
  obtain ⟨F, h1, h3, h6⟩ := h.onR
  obtain ⟨o1, o2⟩ := okD_spec ok
  refine (refAppend h1 o1 (by omega) s hs vp p hpb hp (old_out h3 hv)).mono ?_
  rintro e w' ⟨rfl, hu⟩
  rw [he] at hu ⊢
  exact ⟨rfl, h6 _ _ hu⟩
theorem tSyncD (h : Two w0 X gD gR d dR w) (ok : okD d = true) {s : ByteArray} {E : Int} (he : syncD d s = (E, d')) :
    Calls Try.prog 15 #[.pointer (some ⟨gD, 0, none⟩), .string s] w fun e w' => e = .returned (.int .i64 E) ∧ Two w0 X gD gR d' dR w' ∧ Chg (Gx w0 X) w w' := by
  obtain ⟨F, h1, h3, h6⟩ := h.onD
  obtain ⟨o1, o2⟩ := okD_spec ok
  refine (dskSync h1 o1 (by omega) s).mono ?_
  rintro e w' ⟨rfl, hu⟩
  rw [he] at hu ⊢
  exact ⟨rfl, h6 _ _ hu⟩
theorem tSyncR (h : Two w0 X gD gR d dR w) (ok : okD dR = true) {s : ByteArray} {E : Int} (he : syncD dR s = (E, d')) :
    Calls Try.prog 37 #[.pointer (some ⟨gR, 0, none⟩), .string s] w fun e w' => e = .returned (.int .i64 E) ∧ Two w0 X gD gR d d' w' ∧ Chg (Gx w0 X) w w' := by
  obtain ⟨F, h1, h3, h6⟩ := h.onR
  obtain ⟨o1, o2⟩ := okD_spec ok
  refine (refSync h1 o1 (by omega) s).mono ?_
  rintro e w' ⟨rfl, hu⟩
  rw [he] at hu ⊢
  exact ⟨rfl, h6 _ _ hu⟩
theorem tCutD (h : Two w0 X gD gR d dR w) (ok : okD d = true) {s : ByteArray} {n : Int} {E : Int} (he : cutD d s n = (E, d')) :
    Calls Try.prog 14 #[.pointer (some ⟨gD, 0, none⟩), .string s, .int .i64 n] w fun e w' => e = .returned (.int .i64 E) ∧ Two w0 X gD gR d' dR w' ∧ Chg (Gx w0 X) w w' := by
  obtain ⟨F, h1, h3, h6⟩ := h.onD
  obtain ⟨o1, o2⟩ := okD_spec ok
  refine (dskCut h1 o1 (by omega) s n).mono ?_
  rintro e w' ⟨rfl, hu⟩
  rw [he] at hu ⊢
  exact ⟨rfl, h6 _ _ hu⟩
theorem tCutR (h : Two w0 X gD gR d dR w) (ok : okD dR = true) {s : ByteArray} {n : Int} {E : Int} (he : cutD dR s n = (E, d')) :
    Calls Try.prog 38 #[.pointer (some ⟨gR, 0, none⟩), .string s, .int .i64 n] w fun e w' => e = .returned (.int .i64 E) ∧ Two w0 X gD gR d d' w' ∧ Chg (Gx w0 X) w w' := by
  obtain ⟨F, h1, h3, h6⟩ := h.onR
  obtain ⟨o1, o2⟩ := okD_spec ok
  refine (refCut h1 o1 (by omega) s n).mono ?_
  rintro e w' ⟨rfl, hu⟩
  rw [he] at hu ⊢
  exact ⟨rfl, h6 _ _ hu⟩
theorem tRenameD (h : Two w0 X gD gR d dR w) (ok : okD d = true) {s sn : ByteArray} (hs : sn.size ≤ 4611686018427387904) {E : Int} (he : renameD d s sn = (E, d')) :
    Calls Try.prog 13 #[.pointer (some ⟨gD, 0, none⟩), .string s, .string sn] w fun e w' => e = .returned (.int .i64 E) ∧ Two w0 X gD gR d' dR w' ∧ Chg (Gx w0 X) w w' := by
  obtain ⟨F, h1, h3, h6⟩ := h.onD
  obtain ⟨o1, o2⟩ := okD_spec ok
  refine (dskRename h1 o1 (by omega) s sn hs).mono ?_
  rintro e w' ⟨rfl, hu⟩
  rw [he] at hu ⊢
  exact ⟨rfl, h6 _ _ hu⟩
theorem tRenameR (h : Two w0 X gD gR d dR w) (ok : okD dR = true) {s sn : ByteArray} (hs : sn.size ≤ 4611686018427387904) {E : Int} (he : renameR dR s sn = (E, d')) :
    Calls Try.prog 39 #[.pointer (some ⟨gR, 0, none⟩), .string s, .string sn] w fun e w' => e = .returned (.int .i64 E) ∧ Two w0 X gD gR d d' w' ∧ Chg (Gx w0 X) w w' := by
  obtain ⟨F, h1, h3, h6⟩ := h.onR
  obtain ⟨o1, o2⟩ := okD_spec ok
  refine (refRename h1 o1 (by omega) s sn hs).mono ?_
  rintro e w' ⟨rfl, hu⟩
  rw [he] at hu ⊢
  exact ⟨rfl, h6 _ _ hu⟩
theorem tRemoveD (h : Two w0 X gD gR d dR w) (ok : okD d = true) {s : ByteArray} {E : Int} (he : removeD d s = (E, d')) :
    Calls Try.prog 23 #[.pointer (some ⟨gD, 0, none⟩), .string s] w fun e w' => e = .returned (.int .i64 E) ∧ Two w0 X gD gR d' dR w' ∧ Chg (Gx w0 X) w w' := by
  obtain ⟨F, h1, h3, h6⟩ := h.onD
  obtain ⟨o1, o2⟩ := okD_spec ok
  refine (dskRemove h1 o1 (by omega) s).mono ?_
  rintro e w' ⟨rfl, hu⟩
  rw [he] at hu ⊢
  exact ⟨rfl, h6 _ _ hu⟩
theorem tRemoveR (h : Two w0 X gD gR d dR w) (ok : okD dR = true) {s : ByteArray} {E : Int} (he : removeD dR s = (E, d')) :
    Calls Try.prog 40 #[.pointer (some ⟨gR, 0, none⟩), .string s] w fun e w' => e = .returned (.int .i64 E) ∧ Two w0 X gD gR d d' w' ∧ Chg (Gx w0 X) w w' := by
  obtain ⟨F, h1, h3, h6⟩ := h.onR
  obtain ⟨o1, o2⟩ := okD_spec ok
  refine (refRemove h1 o1 (by omega) s).mono ?_
  rintro e w' ⟨rfl, hu⟩
  rw [he] at hu ⊢
  exact ⟨rfl, h6 _ _ hu⟩
theorem tArmD (h : Two w0 X gD gR d dR w) (n : Int) : Calls Try.prog 16 #[.pointer (some ⟨gD, 0, none⟩), .int .i64 n] w fun e w' => e = .returned (.tuple #[]) ∧ Two w0 X gD gR (armD d n) dR w' ∧ Chg (Gx w0 X) w w' := by
  obtain ⟨F, h1, h3, h6⟩ := h.onD
  refine (dskArm h1 n).mono ?_
  rintro e w' ⟨rfl, hu, hc⟩
  have hc2 : Chg F w w' := hc.mono fun k _ hk => by rw [hk]; exact h1.inG
  exact ⟨rfl, h6 _ _ ⟨hu.ff hc2.size, hc2⟩⟩
theorem tArmR (h : Two w0 X gD gR d dR w) (n : Int) : Calls Try.prog 41 #[.pointer (some ⟨gR, 0, none⟩), .int .i64 n] w fun e w' => e = .returned (.tuple #[]) ∧ Two w0 X gD gR d (armD dR n) w' ∧ Chg (Gx w0 X) w w' := by
  obtain ⟨F, h1, h3, h6⟩ := h.onR
  refine (refArm h1 n).mono ?_
  rintro e w' ⟨rfl, hu, hc⟩
  exact ⟨rfl, h6 _ _ ⟨hu.ff hc.size, hc⟩⟩
theorem tCrashD (h : Two w0 X gD gR d dR w) (ok : okD d = true) {picks : List Int} {vp : Value} (hp : Rd intsE w vp picks) (hv : picks ≠ [] → ∀ k, vp.ownBlock = some k → k < w0.heap.size) (hm : ∀ x ∈ picks, x ≤ 9223372036854775807) :
    Calls Try.prog 20 #[.pointer (some ⟨gD, 0, none⟩), vp] w fun e w' => e = .returned (.tuple #[]) ∧ Two w0 X gD gR (crashD d picks) dR w' ∧ Chg (Gx w0 X) w w' := by
  obtain ⟨F, h1, h3, h6⟩ := h.onD
  obtain ⟨o1, o2⟩ := okD_spec ok
  refine (dskCrash h1 o1 (by omega) vp picks hp (old_out h3 hv) hm).mono ?_
  rintro e w' ⟨rfl, hu⟩
  exact ⟨rfl, h6 _ _ hu⟩
theorem tCrashR (h : Two w0 X gD gR d dR w) (ok : okD dR = true) {picks : List Int} {vp : Value} (hp : Rd intsE w vp picks) (hv : picks ≠ [] → ∀ k, vp.ownBlock = some k → k < w0.heap.size) (hm : ∀ x ∈ picks, x ≤ 9223372036854775807) :
    Calls Try.prog 42 #[.pointer (some ⟨gR, 0, none⟩), vp] w fun e w' => e = .returned (.tuple #[]) ∧ Two w0 X gD gR d (crashD dR picks) w' ∧ Chg (Gx w0 X) w w' := by
  obtain ⟨F, h1, h3, h6⟩ := h.onR
  obtain ⟨o1, o2⟩ := okD_spec ok
  refine (refCrash h1 o1 (by omega) vp picks hp (old_out h3 hv) hm).mono ?_
  rintro e w' ⟨rfl, hu⟩
  exact ⟨rfl, h6 _ _ hu⟩
theorem tReadD (h : Two w0 X gD gR d dR w) (ok : okD d = true) (s : ByteArray) {o : Option (List UInt8)} (he : readD d s = o) : Calls Try.prog 19 #[.pointer (some ⟨gD, 0, none⟩), .string s] w fun e w' => (∃ r, e = .returned (.tuple #[r, .bool o.isSome]) ∧ Bytes w' r (o.getD [])) ∧ Below w.heap.size w w' := by
  obtain ⟨F, h1, h3, h6⟩ := h.onD
  subst he
  refine (dskRead h1 (okD_spec ok).1.tot s).mono ?_
  rintro e w' ⟨r, rfl, h5, h6⟩
  exact ⟨⟨r, rfl, h5.bytes⟩, h6⟩
theorem tReadR (h : Two w0 X gD gR d dR w) (s : ByteArray) {o : Option (List UInt8)} (he : readD dR s = o) : Calls Try.prog 46 #[.pointer (some ⟨gR, 0, none⟩), .string s] w fun e w' => (∃ r, e = .returned (.tuple #[r, .bool o.isSome]) ∧ Bytes w' r (o.getD [])) ∧ w = w' := by
  obtain ⟨F, h1, h3, h6⟩ := h.onR
  subst he
  exact refRead h1 s
theorem tNamesD (h : Two w0 X gD gR d dR w) (ok : okD d = true) : Calls Try.prog 27 #[.pointer (some ⟨gD, 0, none⟩)] w fun e w' => (∃ r, e = .returned r ∧ OwnR strE w' w.heap.size 9 r (d.fs.map (·.name))) ∧ Below w.heap.size w w' := by
  obtain ⟨F, h1, h3, h6⟩ := h.onD
  refine (dskNames h1 (okD_spec ok).1.len).mono ?_
  rintro e w' ⟨r, rfl, h5, h6⟩
  exact ⟨⟨r, rfl, h5⟩, h6⟩
theorem tNamesR (h : Two w0 X gD gR d dR w) (ok : okD dR = true) : Calls Try.prog 43 #[.pointer (some ⟨gR, 0, none⟩)] w fun e w' => (∃ r, e = .returned r ∧ OwnR strE w' w.heap.size 9 r (dR.fs.map (·.name))) ∧ Below w.heap.size w w' := by
  obtain ⟨F, h1, h3, h6⟩ := h.onR
  refine (refNames h1 (okD_spec ok).1.len).mono ?_
  rintro e w' ⟨r, rfl, h5, h6⟩
  exact ⟨⟨r, rfl, h5⟩, h6⟩
theorem tTotalD (h : Two w0 X gD gR d dR w) (ok : okD d = true) : Calls Try.prog 28 #[.pointer (some ⟨gD, 0, none⟩)] w fun e w' => e = .returned (.int .i64 (totD d.fs : Nat)) ∧ Below w.heap.size w w' := by
  obtain ⟨F, h1, h3, h6⟩ := h.onD
  exact dskTotal h1 (Nat.le_trans (okD_spec ok).1.tot (by decide))
theorem tTotalR (h : Two w0 X gD gR d dR w) (ok : okD dR = true) : Calls Try.prog 45 #[.pointer (some ⟨gR, 0, none⟩)] w fun e w' => e = .returned (.int .i64 (totD dR.fs : Nat)) ∧ w = w' := by
  obtain ⟨F, h1, h3, h6⟩ := h.onR
  exact refTotal h1 (Nat.le_trans (okD_spec ok).1.tot (by decide))
theorem tOffD (h : Two w0 X gD gR d dR w) : Calls Try.prog 17 #[.pointer (some ⟨gD, 0, none⟩)] w fun e w' => e = .returned (.bool d.off) ∧ w = w' := by
  obtain ⟨F, h1, h3, h6⟩ := h.onD
  exact dskOff F gD d w h1
theorem Two.offR (h : Two w0 X gD gR d dR w) : w.cell? ⟨gR, 2, none⟩ = some (.bool dR.off) := by
  obtain ⟨F, ⟨v, ys, h1, _⟩, h3, h6⟩ := h.onR
  exact h1.blk.cell 2 _ rfl
end
theorem tNew (w : World) : Calls Try.prog 9 #[] w fun e w' => e = .returned (.pointer (some ⟨w.heap.size, 0, none⟩)) ∧ (∀ w2, Below w'.heap.size w' w2 → ∃ FD, DiskAt w2 FD w.heap.size dk0 ∧ (∀ k, FD k → w.heap.size ≤ k ∧ k < w'.heap.size)) ∧ Below w.heap.size w w' :=
  (dskNew w).mono fun _ w' ⟨h1, h2, h3⟩ => ⟨h1, fun w2 hb => ⟨_, h2.ext hb, fun k hk => hk⟩, h3⟩
end Go.Proofs.Ytklopbjlpffnbaa
