/- The walks of disk.torn and (*disk.Disk).Crash. The walk of (*disk.Disk).Crash. (of DskL, for the write-ahead log.) The disk's contracts as the laws use them: the blocks of the disk are some that were made since w0 and are none of X. The walk of the document's Crash. The document's disk, as its write-ahead log uses it: its blocks are some that were made since w0 and are none of X. What stays true of a disk (out of RfQ and DskKeepP, for the write-ahead log). -/
import Derived.Test.YtgpgcnmnfnnkjaaGreatDoorGWalOpens15
import Derived.Laws.BitsAllLaws
import Derived.Test.YtgpgcnmnfnnkjaaGreatDoorGWalOpens20
import Derived.Deep.CutBlock
set_option linter.unusedVariables false
set_option linter.unusedSimpArgs false
section
namespace Go.Proofs.YtgpgcnmnfnnkjaaGreatDoor
open Go Go.RowKit BigFrame Go.PlainAid
attribute [local go_sem] After.same
theorem Blk.grow {w : World} {g : Nat} {cs : Array Value} {t : TypeId} (h : Blk w g cs t) (i : Nat) (v : Value) : w.grownBy (w.setCell ⟨g, i, none⟩ v) (some g) := by
 unfold Blk at h; rw [setCell_eq_setRow w g i cs t (0, 0) v h]; exact grown_setRow w g _
theorem xor255_u8 (x : UInt8) : bits .xor .u8 (x.toNat : Int) 255 = ((x ^^^ 255).toNat : Int) := by
 have h : (255 : Int) = (((255 : UInt8).toNat : Nat) : Int) := rfl
 rw [h, u8_xor_nat _ _ x.toNat_lt (255 : UInt8).toNat_lt, UInt8.toNat_xor]
attribute [local go_sem] xor255_u8
end Go.Proofs.YtgpgcnmnfnnkjaaGreatDoor
end

section
namespace Go.Proofs.YtgpgcnmnfnnkjaaGreatDoor
open Go Go.RowKit BigFrame Go.PlainAid
attribute [local go_sem] After.same
def pk (picks : List Int) (k : Nat) : Int := (picks[k]?).getD 0
end Go.Proofs.YtgpgcnmnfnnkjaaGreatDoor
end

section
namespace Go.Proofs.YtgpgcnmnfnnkjaaGreatDoor
open Go Go.RowKit BigFrame Go.PlainAid
def Gx (w0 : World) (X : Nat → Prop) (k : Nat) : Prop := w0.heap.size ≤ k ∧ ¬ X k
def DwS (w0 : World) (X : Nat → Prop) (g : Nat) (d : Dk) (w : World) : Prop := (∃ F, DiskAt w F g d ∧ ∀ k, F k → Gx w0 X k) ∧ (∀ k, X k → k < w.heap.size)
def okD (d : Dk) : Bool := decide (d.fs.length ≤ 999999) && (decide (totD d.fs ≤ 4194304) && ((d.fs.all fun f => decide (f.kept ≤ f.data.length)) && (decide (-1 ≤ d.left) && decide (d.left ≤ 9223372036854775807))))
theorem okD_spec {d : Dk} (h : okD d = true) : OkD d ∧ d.fs.length ≤ 999999 := by
 unfold okD at h
 simp only [Bool.and_eq_true, decide_eq_true_eq, List.all_eq_true] at h
 exact ⟨⟨by omega, h.2.1, h.2.2.1, h.2.2.2.1, h.2.2.2.2⟩, h.1⟩
theorem okD_of {d : Dk} (h : OkD d) (h2 : d.fs.length ≤ 999999) : okD d = true := by
 unfold okD
 simp only [Bool.and_eq_true, decide_eq_true_eq, List.all_eq_true]
 exact ⟨h2, h.tot, h.kept, h.lo, h.hi⟩
section
variable {w0 w w' : World} {X Y : Nat → Prop} {g : Nat} {d d' : Dk}
theorem DwS.size (h : DwS w0 X g d w) : w0.heap.size ≤ w.heap.size := by
 obtain ⟨⟨F, h1, h2⟩, _⟩ := h
 have := (h2 g h1.inG).1
 have := h1.lt g h1.inG
 omega
theorem DwS.und {F : Nat → Prop} (h1 : DiskAt w F g d) (h2 : ∀ k, F k → Gx w0 X k) (hx : ∀ k, X k → k < w.heap.size) (h : Und w F g d' w') : DwS w0 X g d' w' ∧ Chg (Gx w0 X) w w' := by
 have hs : w0.heap.size ≤ w.heap.size := DwS.size ⟨⟨F, h1, h2⟩, hx⟩
 refine ⟨⟨⟨_, h.1, fun k hk => ?_⟩, fun k hk => Nat.lt_of_lt_of_le (hx k hk) h.2.size⟩, h.2.mono fun k _ hk => h2 k hk⟩
 rcases hk with hk | hk
 · exact h2 k hk
 · exact ⟨by omega, fun hX => by have := hx k hX; omega⟩
theorem DwS.ext (h : DwS w0 X g d w) (hb : Below w.heap.size w w') : DwS w0 X g d w' := by
 obtain ⟨⟨F, h1, h2⟩, h3⟩ := h
 exact ⟨⟨F, h1.ext hb, h2⟩, fun k hk => Nat.lt_of_lt_of_le (h3 k hk) hb.size⟩
theorem DwS.drewN (h : DwS w0 X g d w) (n : Nat) : DwS w0 X g d (w.drewN n) := h.ext (below_drawn _ _ _)
theorem DwS.drew (h : DwS w0 X g d w) : DwS w0 X g d w.drew := h.ext (below_drew _ _)
theorem DwS.mono (h : DwS w0 X g d w) (hy : ∀ k, Y k → X k) : DwS w0 Y g d w := by
 obtain ⟨⟨F, h1, h2⟩, h3⟩ := h
 exact ⟨⟨F, h1, fun k hk => ⟨(h2 k hk).1, fun hY => (h2 k hk).2 (hy k hY)⟩⟩, fun k hk => h3 k (hy k hk)⟩
theorem DwS.more (h : DwS w0 X g d w) (hb : Below w.heap.size w w') (hy : ∀ k, Y k → X k ∨ (w.heap.size ≤ k ∧ k < w'.heap.size)) : DwS w0 Y g d w' := by
 obtain ⟨⟨F, h1, h2⟩, h3⟩ := h
 refine ⟨⟨F, h1.ext hb, fun k hk => ⟨(h2 k hk).1, fun hY => ?_⟩⟩, fun k hk => ?_⟩
 · rcases hy k hY with h | h
   · exact (h2 k hk).2 h
   · have := h1.lt k hk; omega
 · rcases hy k hk with h | h
   · exact Nat.lt_of_lt_of_le (h3 k h) hb.size
   · exact h.2
theorem DwS.alloc (h : DwS w0 X g d w) (o : Obj) : DwS w0 (fun k => X k ∨ k = w.heap.size) g d (w.alloc o) :=
 h.more (below_alloc _ _) fun k hk => hk.imp id fun e => by subst e; exact ⟨Nat.le_refl _, by simp⟩
theorem Chg.gx (h : Chg (Gx w0 X) w w') (hs : w0.heap.size ≤ w.heap.size) : Below w0.heap.size w w' := h.below (fun _ hk => hk.1) hs
theorem Chg.gxO {v : Value} (hv : ∀ k, v.ownBlock = some k → k < w0.heap.size ∨ X k) : ∀ k, v.ownBlock = some k → ¬ Gx w0 X k := fun k hk h => by
 rcases hv k hk with h1 | h1
 · have := h.1; omega
 · exact h.2 h1

theorem lNew (w0 w : World) (hs : w0.heap.size ≤ w.heap.size) (X : Nat → Prop) (hx : ∀ k, X k → k < w.heap.size) : Calls Tryz.prog 16 #[] w fun e w' => e = .returned (.pointer (some ⟨w.heap.size, 0, none⟩)) ∧ DwS w0 X w.heap.size dk0 w' ∧ Below w.heap.size w w' :=
 (dskNew w).mono fun _ w' ⟨h1, h2, h3⟩ => ⟨h1, ⟨⟨_, h2, fun k hk => ⟨by have := hk.1; omega, fun hX => by have := hk.1; have := hx k hX; omega⟩⟩, fun k hk => Nat.lt_of_lt_of_le (hx k hk) h3.size⟩, h3⟩
theorem lAppend (h : DwS w0 X g d w) (ok : okD d = true) {s : ByteArray} {p : List UInt8} {E : Int} (he : appendD d s p = (E, d')) (hs : s.size ≤ 4611686018427387904) {vp : Value} (hp : Bytes w vp p) (hv : p ≠ [] → ∀ k, vp.ownBlock = some k → k < w0.heap.size ∨ X k) :
 Calls Tryz.prog 17 #[.pointer (some ⟨g, 0, none⟩), .string s, vp] w fun e w' => e = .returned (.int .i64 E) ∧ DwS w0 X g d' w' ∧ Chg (Gx w0 X) w w' := by
 obtain ⟨⟨F, h1, h2⟩, h3⟩ := h
 obtain ⟨o1, o2⟩ := okD_spec ok
 refine (dskAppend h1 o1 o2 s hs vp p hp (fun he k hk hF => Chg.gxO (hv he) k hk (h2 k hF))).mono ?_
 rintro e w' ⟨rfl, hu⟩
 rw [he] at hu ⊢
 exact ⟨rfl, DwS.und h1 h2 h3 hu⟩
theorem lSync (h : DwS w0 X g d w) (ok : okD d = true) {s : ByteArray} {E : Int} (he : syncD d s = (E, d')) :
 Calls Tryz.prog 101 #[.pointer (some ⟨g, 0, none⟩), .string s] w fun e w' => e = .returned (.int .i64 E) ∧ DwS w0 X g d' w' ∧ Chg (Gx w0 X) w w' := by
 obtain ⟨⟨F, h1, h2⟩, h3⟩ := h
 obtain ⟨o1, o2⟩ := okD_spec ok
 refine (dskSync h1 o1 (by omega) s).mono ?_
 rintro e w' ⟨rfl, hu⟩
 rw [he] at hu ⊢
 exact ⟨rfl, DwS.und h1 h2 h3 hu⟩
theorem lCut (h : DwS w0 X g d w) (ok : okD d = true) {s : ByteArray} {n E : Int} (he : cutD d s n = (E, d')) :
 Calls Tryz.prog 100 #[.pointer (some ⟨g, 0, none⟩), .string s, .int .i64 n] w fun e w' => e = .returned (.int .i64 E) ∧ DwS w0 X g d' w' ∧ Chg (Gx w0 X) w w' := by
 obtain ⟨⟨F, h1, h2⟩, h3⟩ := h
 obtain ⟨o1, o2⟩ := okD_spec ok
 refine (dskCut h1 o1 (by omega) s n).mono ?_
 rintro e w' ⟨rfl, hu⟩
 rw [he] at hu ⊢
 exact ⟨rfl, DwS.und h1 h2 h3 hu⟩
theorem lRemove (h : DwS w0 X g d w) (ok : okD d = true) {s : ByteArray} {E : Int} (he : removeD d s = (E, d')) :
 Calls Tryz.prog 79 #[.pointer (some ⟨g, 0, none⟩), .string s] w fun e w' => e = .returned (.int .i64 E) ∧ DwS w0 X g d' w' ∧ Chg (Gx w0 X) w w' := by
 obtain ⟨⟨F, h1, h2⟩, h3⟩ := h
 obtain ⟨o1, o2⟩ := okD_spec ok
 refine (dskRemove h1 o1 (by omega) s).mono ?_
 rintro e w' ⟨rfl, hu⟩
 rw [he] at hu ⊢
 exact ⟨rfl, DwS.und h1 h2 h3 hu⟩
theorem lRead (h : DwS w0 X g d w) (ok : okD d = true) (s : ByteArray) {o : Option (List UInt8)} (he : readD d s = o) : Calls Tryz.prog 62 #[.pointer (some ⟨g, 0, none⟩), .string s] w fun e w' => (∃ r, e = .returned (.tuple #[r, .bool o.isSome]) ∧ OwnB w' w.heap.size 5 r (o.getD [])) ∧ Below w.heap.size w w' := by
 obtain ⟨⟨F, h1, h2⟩, h3⟩ := h
 subst he
 refine (dskRead h1 (okD_spec ok).1.tot s).mono ?_
 rintro e w' ⟨r, rfl, h5, h6⟩
 exact ⟨⟨r, rfl, h5⟩, h6⟩
theorem lNames (h : DwS w0 X g d w) (ok : okD d = true) : Calls Tryz.prog 34 #[.pointer (some ⟨g, 0, none⟩)] w fun e w' => (∃ r, e = .returned r ∧ OwnR strE w' w.heap.size 9 r (d.fs.map (·.name))) ∧ Below w.heap.size w w' := by
 obtain ⟨⟨F, h1, h2⟩, h3⟩ := h
 refine (dskNames h1 (okD_spec ok).1.len).mono ?_
 rintro e w' ⟨r, rfl, h5, h6⟩
 exact ⟨⟨r, rfl, h5⟩, h6⟩
end
abbrev noX : Nat → Prop := fun _ => False
def oneX (b : Nat) : Nat → Prop := fun k => k = b
theorem DwS.one {w0 w : World} {g : Nat} {d : Dk} (h : DwS w0 noX g d w) (o : Obj) : DwS w0 (oneX w.heap.size) g d (w.alloc o) := (h.alloc o).mono fun _ hk => .inr hk
theorem nil_own {A : Prop} {w0 : World} {X : Nat → Prop} {n c : Nat} : A → ∀ k, (Value.slice none n c).ownBlock = some k → k < w0.heap.size ∨ X k := fun _ k h => by simp [Value.ownBlock] at h
end Go.Proofs.YtgpgcnmnfnnkjaaGreatDoor
end

section
namespace Go.Proofs.YtgpgcnmnfnnkjaaGreatDoor
open Go Go.RowKit BigFrame Go.PlainAid
attribute [local go_sem] After.same
attribute [local go_sem] xor255_u8
end Go.Proofs.YtgpgcnmnfnnkjaaGreatDoor
end

section
namespace Go.Proofs.YtgpgcnmnfnnkjaaGreatDoor
open Go Go.RowKit BigFrame Go.PlainAid
def RfS (w0 : World) (X : Nat → Prop) (g : Nat) (d : Dk) (w : World) : Prop := (∃ F, RefAt w F g d ∧ ∀ k, F k → Gx w0 X k) ∧ (∀ k, X k → k < w.heap.size)
section
variable {w0 w w' : World} {X Y : Nat → Prop} {g : Nat} {d d' : Dk}
theorem RfS.size (h : RfS w0 X g d w) : w0.heap.size ≤ w.heap.size := by
 obtain ⟨⟨F, h1, h2⟩, _⟩ := h
 have := (h2 g h1.inG).1
 have := h1.lt g h1.inG
 omega
theorem RfS.und {F : Nat → Prop} (h1 : RefAt w F g d) (h2 : ∀ k, F k → Gx w0 X k) (hx : ∀ k, X k → k < w.heap.size) (h : UndR w F g d' w') : RfS w0 X g d' w' ∧ Chg (Gx w0 X) w w' := by
 have hs : w0.heap.size ≤ w.heap.size := RfS.size ⟨⟨F, h1, h2⟩, hx⟩
 refine ⟨⟨⟨_, h.1, fun k hk => ?_⟩, fun k hk => Nat.lt_of_lt_of_le (hx k hk) h.2.size⟩, h.2.mono fun k _ hk => h2 k hk⟩
 rcases hk with hk | hk
 · exact h2 k hk
 · exact ⟨by omega, fun hX => by have := hx k hX; omega⟩
theorem RfS.ext (h : RfS w0 X g d w) (hb : Below w.heap.size w w') : RfS w0 X g d w' := by
 obtain ⟨⟨F, h1, h2⟩, h3⟩ := h
 exact ⟨⟨F, h1.ext hb, h2⟩, fun k hk => Nat.lt_of_lt_of_le (h3 k hk) hb.size⟩
theorem RfS.drewN (h : RfS w0 X g d w) (n : Nat) : RfS w0 X g d (w.drewN n) := h.ext (below_drawn _ _ _)
theorem RfS.drew (h : RfS w0 X g d w) : RfS w0 X g d w.drew := h.ext (below_drew _ _)
theorem RfS.mono (h : RfS w0 X g d w) (hy : ∀ k, Y k → X k) : RfS w0 Y g d w := by
 obtain ⟨⟨F, h1, h2⟩, h3⟩ := h
 exact ⟨⟨F, h1, fun k hk => ⟨(h2 k hk).1, fun hY => (h2 k hk).2 (hy k hY)⟩⟩, fun k hk => h3 k (hy k hk)⟩
theorem RfS.more (h : RfS w0 X g d w) (hb : Below w.heap.size w w') (hy : ∀ k, Y k → X k ∨ (w.heap.size ≤ k ∧ k < w'.heap.size)) : RfS w0 Y g d w' := by
 obtain ⟨⟨F, h1, h2⟩, h3⟩ := h
 refine ⟨⟨F, h1.ext hb, fun k hk => ⟨(h2 k hk).1, fun hY => ?_⟩⟩, fun k hk => ?_⟩
 · rcases hy k hY with h | h
   · exact (h2 k hk).2 h
   · have := h1.lt k hk; omega
 · rcases hy k hk with h | h
   · exact Nat.lt_of_lt_of_le (h3 k h) hb.size
   · exact h.2
theorem RfS.alloc (h : RfS w0 X g d w) (o : Obj) : RfS w0 (fun k => X k ∨ k = w.heap.size) g d (w.alloc o) :=
 h.more (below_alloc _ _) fun k hk => hk.imp id fun e => by subst e; exact ⟨Nat.le_refl _, by simp⟩
theorem RfS.chgX {G : Nat → Prop} (h : RfS w0 X g d w) (hc : Chg G w w') (hG : ∀ k, G k → X k ∨ k < w0.heap.size) : RfS w0 X g d w' := by
 obtain ⟨⟨F, h1, h2⟩, h3⟩ := h
 refine ⟨⟨F, h1.chg hc fun k hk hg => ?_, h2⟩, fun k hk => Nat.lt_of_lt_of_le (h3 k hk) hc.size⟩
 obtain ⟨a, b⟩ := h2 k hk
 rcases hG k hg with h | h
 · exact b h
 · omega
theorem rNew (w0 w : World) (hs : w0.heap.size ≤ w.heap.size) (X : Nat → Prop) (hx : ∀ k, X k → k < w.heap.size) : Calls Tryz.prog 10 #[] w fun e w' => e = .returned (.pointer (some ⟨w.heap.size, 0, none⟩)) ∧ RfS w0 X w.heap.size dk0 w' ∧ Below w.heap.size w w' :=
 (refNew w).mono fun _ w' ⟨h1, h2, h3⟩ => ⟨h1, ⟨⟨_, h2, fun k hk => ⟨by have := hk.1; omega, fun hX => by have := hk.1; have := hx k hX; omega⟩⟩, fun k hk => Nat.lt_of_lt_of_le (hx k hk) h3.size⟩, h3⟩
theorem rAppend (h : RfS w0 X g d w) (ok : okD d = true) {s : ByteArray} {p : List UInt8} {E : Int} (he : appendD d s p = (E, d')) (hs : s.size ≤ 4611686018427387904) (hpb : p.length ≤ 4611686018427387904) {vp : Value} (hp : Bytes w vp p) (hv : p ≠ [] → ∀ k, vp.ownBlock = some k → k < w0.heap.size ∨ X k) :
 Calls Tryz.prog 18 #[.pointer (some ⟨g, 0, none⟩), .string s, vp] w fun e w' => e = .returned (.int .i64 E) ∧ RfS w0 X g d' w' ∧ Chg (Gx w0 X) w w' := by
 obtain ⟨⟨F, h1, h2⟩, h3⟩ := h
 obtain ⟨o1, o2⟩ := okD_spec ok
 refine (refAppend h1 o1 o2 s hs vp p hpb hp (fun he k hk hF => Chg.gxO (hv he) k hk (h2 k hF))).mono ?_
 rintro e w' ⟨rfl, hu⟩
 rw [he] at hu ⊢
 exact ⟨rfl, RfS.und h1 h2 h3 hu⟩
theorem rSync (h : RfS w0 X g d w) (ok : okD d = true) {s : ByteArray} {E : Int} (he : syncD d s = (E, d')) :
 Calls Tryz.prog 47 #[.pointer (some ⟨g, 0, none⟩), .string s] w fun e w' => e = .returned (.int .i64 E) ∧ RfS w0 X g d' w' ∧ Chg (Gx w0 X) w w' := by
 obtain ⟨⟨F, h1, h2⟩, h3⟩ := h
 obtain ⟨o1, o2⟩ := okD_spec ok
 refine (refSync h1 o1 (by omega) s).mono ?_
 rintro e w' ⟨rfl, hu⟩
 rw [he] at hu ⊢
 exact ⟨rfl, RfS.und h1 h2 h3 hu⟩
theorem rCut (h : RfS w0 X g d w) (ok : okD d = true) {s : ByteArray} {n E : Int} (he : cutD d s n = (E, d')) :
 Calls Tryz.prog 45 #[.pointer (some ⟨g, 0, none⟩), .string s, .int .i64 n] w fun e w' => e = .returned (.int .i64 E) ∧ RfS w0 X g d' w' ∧ Chg (Gx w0 X) w w' := by
 obtain ⟨⟨F, h1, h2⟩, h3⟩ := h
 obtain ⟨o1, o2⟩ := okD_spec ok
 refine (refCut h1 o1 (by omega) s n).mono ?_
 rintro e w' ⟨rfl, hu⟩
 rw [he] at hu ⊢
 exact ⟨rfl, RfS.und h1 h2 h3 hu⟩
theorem rRemove (h : RfS w0 X g d w) (ok : okD d = true) {s : ByteArray} {E : Int} (he : removeD d s = (E, d')) :
 Calls Tryz.prog 46 #[.pointer (some ⟨g, 0, none⟩), .string s] w fun e w' => e = .returned (.int .i64 E) ∧ RfS w0 X g d' w' ∧ Chg (Gx w0 X) w w' := by
 obtain ⟨⟨F, h1, h2⟩, h3⟩ := h
 obtain ⟨o1, o2⟩ := okD_spec ok
 refine (refRemove h1 o1 (by omega) s).mono ?_
 rintro e w' ⟨rfl, hu⟩
 rw [he] at hu ⊢
 exact ⟨rfl, RfS.und h1 h2 h3 hu⟩
theorem rRead (h : RfS w0 X g d w) (s : ByteArray) {o : Option (List UInt8)} (he : readD d s = o) : Calls Tryz.prog 14 #[.pointer (some ⟨g, 0, none⟩), .string s] w fun e w' => (∃ r, e = .returned (.tuple #[r, .bool o.isSome]) ∧ Bytes w' r (o.getD [])) ∧ w = w' := by
 obtain ⟨⟨F, h1, h2⟩, h3⟩ := h
 subst he
 exact refRead h1 s
theorem rNames (h : RfS w0 X g d w) (ok : okD d = true) : Calls Tryz.prog 13 #[.pointer (some ⟨g, 0, none⟩)] w fun e w' => (∃ r, e = .returned r ∧ OwnR strE w' w.heap.size 9 r (d.fs.map (·.name))) ∧ Below w.heap.size w w' := by
 obtain ⟨⟨F, h1, h2⟩, h3⟩ := h
 refine (refNames h1 (okD_spec ok).1.len).mono ?_
 rintro e w' ⟨r, rfl, h5, h6⟩
 exact ⟨⟨r, rfl, h5⟩, h6⟩
end
end Go.Proofs.YtgpgcnmnfnnkjaaGreatDoor
end

section
namespace Go.Proofs.YtgpgcnmnfnnkjaaGreatDoor
open Go Go.RowKit Go.PlainAid
theorem flipLast_length (l : List UInt8) : (flipLast l).length = l.length := by unfold flipLast; split <;> simp
structure LInv (k : Nat) (l : List Fil) : Prop where
 sort : SortD l
 nam : ∀ f ∈ l, namedD f.name = true
 kept : ∀ f ∈ l, f.kept ≤ f.data.length
 tot : totD l ≤ 4194304
 len : l.length ≤ k
structure PInv (k : Nat) (d : Dk) : Prop where
 l : LInv k d.fs
 lo : -1 ≤ d.left
 hi : d.left ≤ 9223372036854775807
theorem PInv.ok {k : Nat} {d : Dk} (h : PInv k d) (hk : k ≤ 1000) : okD d = true :=
 okD_of ⟨by have := h.l.len; omega, h.l.tot, h.l.kept, h.lo, h.hi⟩ (by have := h.l.len; omega)
theorem PInv.zero : PInv 0 dk0 := ⟨⟨List.Pairwise.nil, by simp [dk0], by simp [dk0], by simp [dk0, totD], by simp [dk0]⟩, by decide, by decide⟩
theorem LInv.up {k : Nat} {l : List Fil} (h : LInv k l) : LInv (k + 1) l := ⟨h.sort, h.nam, h.kept, h.tot, by have := h.len; omega⟩
theorem PInv.up {k : Nat} {d : Dk} (h : PInv k d) : PInv (k + 1) d := ⟨h.l.up, h.lo, h.hi⟩
theorem PInv.pow {k : Nat} {d : Dk} (h : PInv k d) : PInv k (powD d).2 := by
 have ok := (OkD.pow (d := ⟨[], d.off, d.left⟩) ⟨by simp, by simp [totD], by simp, h.lo, h.hi⟩)
 have e : (powD d).2.left = (powD ⟨[], d.off, d.left⟩).2.left := by unfold powD; dsimp only; split <;> rfl
 exact ⟨by rw [powD_fs]; exact h.l, by rw [e]; exact ok.lo, by rw [e]; exact ok.hi⟩
theorem PInv.step {k : Nat} {d : Dk} (h : PInv k d) {f : List Fil → List Fil} (hf : LInv (k + 1) (f d.fs)) : PInv (k + 1) (stepD d f).2 := by
 have hp := h.pow
 unfold stepD
 split
 · exact ⟨hf, hp.lo, hp.hi⟩
 · exact hp.up
theorem PInv.on {k : Nat} {d : Dk} (h : PInv k d) {s : ByteArray} {f : List Fil → Nat → List Fil} (hf : ∀ j, j < d.fs.length → LInv (k + 1) (f d.fs j)) : PInv (k + 1) (onD d s f).2 := by
 rcases knownD_spec d s with ⟨h1, _⟩ | ⟨j, hj, h1, h2⟩
 · rw [onD_no h1]; exact h.up
 · rw [onD_yes h1 h2]; exact h.step (f := fun l => f l j) (hf j hj)
theorem LInv.set {k : Nat} {l : List Fil} (h : LInv k l) {j : Nat} (hj : j < l.length) {y : Fil} (hn : y.name = l[j].name) (hk : y.kept ≤ y.data.length) (ht : y.data.length ≤ l[j].data.length) : LInv (k + 1) (l.set j y) := by
 refine ⟨h.sort.set hj hn, fun f hf => ?_, fun f hf => ?_, ?_, by rw [List.length_set]; have := h.len; omega⟩
 · rcases List.mem_or_eq_of_mem_set hf with hf | rfl
   · exact h.nam f hf
   · rw [hn]; exact h.nam _ (List.getElem_mem hj)
 · rcases List.mem_or_eq_of_mem_set hf with hf | rfl
   · exact h.kept f hf
   · exact hk
 · have h1 := totD_set hj y; have := h.tot; omega
theorem LInv.del {k : Nat} {l : List Fil} (h : LInv k l) (j : Nat) : LInv k (delD l j) :=
 ⟨h.sort.del j, fun f hf => h.nam f (delD_sub hf), fun f hf => h.kept f (delD_sub hf), Nat.le_trans (totD_del _ _) h.tot, Nat.le_trans (delD_length _ _) h.len⟩
theorem LInv.mD {k : Nat} {l : List Fil} (h : LInv k l) {s : ByteArray} (hs : namedD s = true) : LInv (k + 1) (mD l s) := by
 refine ⟨h.sort.mD s, ?_, ?_, by rw [totD_mD]; exact h.tot, by have h1 := mD_length l s; have h2 := h.len; omega⟩
 · intro f hf
   unfold Proofs.YtgpgcnmnfnnkjaaGreatDoor.mD at hf
   split at hf
   · rcases putD_sub hf with rfl | hf
     · exact hs
     · exact h.nam f hf
   · exact h.nam f hf
 · intro f hf
   unfold Proofs.YtgpgcnmnfnnkjaaGreatDoor.mD at hf
   split at hf
   · rcases putD_sub hf with rfl | hf
     · exact Nat.zero_le _
     · exact h.kept f hf
   · exact h.kept f hf
theorem LInv.add {k : Nat} {l : List Fil} (h : LInv k l) {s : ByteArray} {p : List UInt8} (hs : namedD s = true) (ht : totD l + p.length ≤ 4194304) : LInv (k + 1) (addD s p l) := by
 have hm := h.mD hs
 obtain ⟨j, hj, hix⟩ := mD_has l s
 refine ⟨h.sort.addD s p, ?_, kept_addD h.kept s p, by rw [totD_addD]; exact ht, by have h1 := addD_length s p l; have h2 := h.len; omega⟩
 intro f hf
 rw [addD_eq, hix, Int.toNat_natCast, updD_at hj] at hf
 rcases List.mem_or_eq_of_mem_set hf with hf | rfl
 · exact hm.nam f hf
 · exact hm.nam ((Proofs.YtgpgcnmnfnnkjaaGreatDoor.mD l s)[j]) (List.getElem_mem hj)
section
variable {k : Nat} {d : Dk}
theorem PInv.append (h : PInv k d) (s : ByteArray) (p : List UInt8) : PInv (k + 1) (appendD d s p).2 := by
 unfold appendD
 split
 · exact h.up
 · split
   · exact h.up
   · rename_i h1 h2
     split
     · exact h.up
     · exact h.step (f := addD s p) (h.l.add (by cases hn : namedD s; exact absurd hn h2; rfl) (by omega))
theorem PInv.sync (h : PInv k d) (s : ByteArray) : PInv (k + 1) (syncD d s).2 :=
 h.on fun j hj => by rw [updD_at hj]; exact h.l.set hj rfl (Nat.le_refl _) (Nat.le_refl _)
theorem PInv.cut (h : PInv k d) (s : ByteArray) (n : Int) : PInv (k + 1) (cutD d s n).2 := by
 unfold cutD
 split
 · exact h.up
 · refine h.on fun j hj => ?_
   rw [updD_at hj]
   have hk := h.l.kept _ (List.getElem_mem hj)
   exact h.l.set hj rfl (by show min _ _ ≤ (List.take _ _).length; rw [List.length_take]; omega) (by show (List.take _ _).length ≤ _; rw [List.length_take]; omega)
theorem PInv.remove (h : PInv k d) (s : ByteArray) : PInv (k + 1) (removeD d s).2 := h.on fun j _ => (h.l.del j).up
end
end Go.Proofs.YtgpgcnmnfnnkjaaGreatDoor
end
