/- (of DskL, for the write-ahead log.) The disk's contracts as the laws use them: the blocks of the disk are some that were made since w0 and are none of X. The walk of the document's Crash. The document's disk, as its write-ahead log uses it: its blocks are some that were made since w0 and are none of X. -/
import Derived.Test.YtgpgcnmnfnnkjaaGreatDoorGWalPlays21
import Derived.Test.YtgpgcnmnfnnkjaaGreatDoorGWalPlays19
import Derived.Deep.CutBlock
set_option linter.unusedVariables false
set_option linter.unusedSimpArgs false
section
namespace Go.Proofs.YtgpgcnmnfnnkjaaGreatDoor
open Go Go.RowKit BigFrame Go.PlainAid
def Gx (w0 : World) (X : Nat → Prop) (k : Nat) : Prop := w0.heap.size ≤ k ∧ ¬ X k
def DwS (w0 : World) (X : Nat → Prop) (g : Nat) (d : Dk) (w : World) : Prop := (∃ F, DiskAt w F g d ∧ ∀ k, F k → Gx w0 X k) ∧ (∀ k, X k → k < w.heap.size)
def okD (d : Dk) : Bool := decide (d.fs.length ≤ 999999) && (decide (totD d.fs ≤ 4194304) && ((d.fs.all fun f => decide (f.kept ≤ f.data.length)) && (decide (-1 ≤ d.left) && decide (d.left ≤ 9223372036854775807))))
theorem okD_spec {d : Dk} (h : okD d = true) : OkD d ∧ d.fs.length ≤ 999999 := by
 unfold okD at h
 simp only [Bool.and_eq_true, decide_eq_true_eq, List.all_eq_true] at h
 exact ⟨⟨by omega, h.2.1, h.2.2.1, h.2.2.2.1, h.2.2.2.2⟩, h.1⟩
theorem okD_of {d : Dk} (h : OkD d) (h2 : d.fs.length ≤ 999999) : okD d = true := by
 unfold okD
 simp only [Bool.and_eq_true, decide_eq_true_eq, List.all_eq_true]
 exact ⟨h2, h.tot, h.kept, h.lo, h.hi⟩
section
variable {w0 w w' : World} {X Y : Nat → Prop} {g : Nat} {d d' : Dk}
theorem DwS.size (h : DwS w0 X g d w) : w0.heap.size ≤ w.heap.size := by
 obtain ⟨⟨F, h1, h2⟩, _⟩ := h
 have := (h2 g h1.inG).1
 have := h1.lt g h1.inG
 omega
theorem DwS.und {F : Nat → Prop} (h1 : DiskAt w F g d) (h2 : ∀ k, F k → Gx w0 X k) (hx : ∀ k, X k → k < w.heap.size) (h : Und w F g d' w') : DwS w0 X g d' w' ∧ Chg (Gx w0 X) w w' := by
 have hs : w0.heap.size ≤ w.heap.size := DwS.size ⟨⟨F, h1, h2⟩, hx⟩
 refine ⟨⟨⟨_, h.1, fun k hk => ?_⟩, fun k hk => Nat.lt_of_lt_of_le (hx k hk) h.2.size⟩, h.2.mono fun k _ hk => h2 k hk⟩
 rcases hk with hk | hk
 · exact h2 k hk
 · exact ⟨by omega, fun hX => by have := hx k hX; omega⟩
theorem DwS.ext (h : DwS w0 X g d w) (hb : Below w.heap.size w w') : DwS w0 X g d w' := by
 obtain ⟨⟨F, h1, h2⟩, h3⟩ := h
 exact ⟨⟨F, h1.ext hb, h2⟩, fun k hk => Nat.lt_of_lt_of_le (h3 k hk) hb.size⟩
theorem DwS.drewN (h : DwS w0 X g d w) (n : Nat) : DwS w0 X g d (w.drewN n) := h.ext (below_drawn _ _ _)
theorem DwS.drew (h : DwS w0 X g d w) : DwS w0 X g d w.drew := h.ext (below_drew _ _)
theorem DwS.mono (h : DwS w0 X g d w) (hy : ∀ k, Y k → X k) : DwS w0 Y g d w := by
 obtain ⟨⟨F, h1, h2⟩, h3⟩ := h
 exact ⟨⟨F, h1, fun k hk => ⟨(h2 k hk).1, fun hY => (h2 k hk).2 (hy k hY)⟩⟩, fun k hk => h3 k (hy k hk)⟩
theorem DwS.more (h : DwS w0 X g d w) (hb : Below w.heap.size w w') (hy : ∀ k, Y k → X k ∨ (w.heap.size ≤ k ∧ k < w'.heap.size)) : DwS w0 Y g d w' := by
 obtain ⟨⟨F, h1, h2⟩, h3⟩ := h
 refine ⟨⟨F, h1.ext hb, fun k hk => ⟨(h2 k hk).1, fun hY => ?_⟩⟩, fun k hk => ?_⟩
 · rcases hy k hY with h | h
   · exact (h2 k hk).2 h
   · have := h1.lt k hk; omega
 · rcases hy k hk with h | h
   · exact Nat.lt_of_lt_of_le (h3 k h) hb.size
   · exact h.2
theorem DwS.alloc (h : DwS w0 X g d w) (o : Obj) : DwS w0 (fun k => X k ∨ k = w.heap.size) g d (w.alloc o) :=
 h.more (below_alloc _ _) fun k hk => hk.imp id fun e => by subst e; exact ⟨Nat.le_refl _, by simp⟩
theorem Chg.gx (h : Chg (Gx w0 X) w w') (hs : w0.heap.size ≤ w.heap.size) : Below w0.heap.size w w' := h.below (fun _ hk => hk.1) hs
theorem Chg.gxO {v : Value} (hv : ∀ k, v.ownBlock = some k → k < w0.heap.size ∨ X k) : ∀ k, v.ownBlock = some k → ¬ Gx w0 X k := fun k hk h => by
 rcases hv k hk with h1 | h1
 · have := h.1; omega
 · exact h.2 h1

theorem lNew (w0 w : World) (hs : w0.heap.size ≤ w.heap.size) (X : Nat → Prop) (hx : ∀ k, X k → k < w.heap.size) : Calls Tryz.prog 16 #[] w fun e w' => e = .returned (.pointer (some ⟨w.heap.size, 0, none⟩)) ∧ DwS w0 X w.heap.size dk0 w' ∧ Below w.heap.size w w' :=
 (dskNew w).mono fun _ w' ⟨h1, h2, h3⟩ => ⟨h1, ⟨⟨_, h2, fun k hk => ⟨by have := hk.1; omega, fun hX => by have := hk.1; have := hx k hX; omega⟩⟩, fun k hk => Nat.lt_of_lt_of_le (hx k hk) h3.size⟩, h3⟩
theorem lAppend (h : DwS w0 X g d w) (ok : okD d = true) {s : ByteArray} {p : List UInt8} {E : Int} (he : appendD d s p = (E, d')) (hs : s.size ≤ 4611686018427387904) {vp : Value} (hp : Bytes w vp p) (hv : p ≠ [] → ∀ k, vp.ownBlock = some k → k < w0.heap.size ∨ X k) :
 Calls Tryz.prog 17 #[.pointer (some ⟨g, 0, none⟩), .string s, vp] w fun e w' => e = .returned (.int .i64 E) ∧ DwS w0 X g d' w' ∧ Chg (Gx w0 X) w w' := by
 obtain ⟨⟨F, h1, h2⟩, h3⟩ := h
 obtain ⟨o1, o2⟩ := okD_spec ok
 refine (dskAppend h1 o1 o2 s hs vp p hp (fun he k hk hF => Chg.gxO (hv he) k hk (h2 k hF))).mono ?_
 rintro e w' ⟨rfl, hu⟩
 rw [he] at hu ⊢
 exact ⟨rfl, DwS.und h1 h2 h3 hu⟩
theorem lSync (h : DwS w0 X g d w) (ok : okD d = true) {s : ByteArray} {E : Int} (he : syncD d s = (E, d')) :
 Calls Tryz.prog 101 #[.pointer (some ⟨g, 0, none⟩), .string s] w fun e w' => e = .returned (.int .i64 E) ∧ DwS w0 X g d' w' ∧ Chg (Gx w0 X) w w' := by
 obtain ⟨⟨F, h1, h2⟩, h3⟩ := h
 obtain ⟨o1, o2⟩ := okD_spec ok
 refine (dskSync h1 o1 (by omega) s).mono ?_
 rintro e w' ⟨rfl, hu⟩
 rw [he] at hu ⊢
 exact ⟨rfl, DwS.und h1 h2 h3 hu⟩
theorem lCut (h : DwS w0 X g d w) (ok : okD d = true) {s : ByteArray} {n E : Int} (he : cutD d s n = (E, d')) :
 Calls Tryz.prog 100 #[.pointer (some ⟨g, 0, none⟩), .string s, .int .i64 n] w fun e w' => e = .returned (.int .i64 E) ∧ DwS w0 X g d' w' ∧ Chg (Gx w0 X) w w' := by
 obtain ⟨⟨F, h1, h2⟩, h3⟩ := h
 obtain ⟨o1, o2⟩ := okD_spec ok
 refine (dskCut h1 o1 (by omega) s n).mono ?_
 rintro e w' ⟨rfl, hu⟩
 rw [he] at hu ⊢
 exact ⟨rfl, DwS.und h1 h2 h3 hu⟩
theorem lRemove (h : DwS w0 X g d w) (ok : okD d = true) {s : ByteArray} {E : Int} (he : removeD d s = (E, d')) :
 Calls Tryz.prog 79 #[.pointer (some ⟨g, 0, none⟩), .string s] w fun e w' => e = .returned (.int .i64 E) ∧ DwS w0 X g d' w' ∧ Chg (Gx w0 X) w w' := by
 obtain ⟨⟨F, h1, h2⟩, h3⟩ := h
 obtain ⟨o1, o2⟩ := okD_spec ok
 refine (dskRemove h1 o1 (by omega) s).mono ?_
 rintro e w' ⟨rfl, hu⟩
 rw [he] at hu ⊢
 exact ⟨rfl, DwS.und h1 h2 h3 hu⟩
theorem lArm (h : DwS w0 X g d w) (n : Int) : Calls Tryz.prog 26 #[.pointer (some ⟨g, 0, none⟩), .int .i64 n] w fun e w' => e = .returned (.tuple #[]) ∧ DwS w0 X g (armD d n) w' ∧ Chg (Gx w0 X) w w' := by
 obtain ⟨⟨F, h1, h2⟩, h3⟩ := h
 refine (dskArm h1 n).mono ?_
 rintro e w' ⟨rfl, hu, hc⟩
 have hc2 : Chg F w w' := hc.mono fun k _ hk => by rw [hk]; exact h1.inG
 exact ⟨rfl, DwS.und h1 h2 h3 ⟨hu.ff hc2.size, hc2⟩⟩
theorem lCrash (h : DwS w0 X g d w) (ok : okD d = true) {picks : List Int} (he : crashD d picks = d') {vp : Value} (hp : Rd intsE w vp picks) (hv : picks ≠ [] → ∀ k, vp.ownBlock = some k → k < w0.heap.size ∨ X k) (hm : ∀ x ∈ picks, x ≤ 9223372036854775807) :
 Calls Tryz.prog 28 #[.pointer (some ⟨g, 0, none⟩), vp] w fun e w' => e = .returned (.tuple #[]) ∧ DwS w0 X g d' w' ∧ Chg (Gx w0 X) w w' := by
 obtain ⟨⟨F, h1, h2⟩, h3⟩ := h
 obtain ⟨o1, o2⟩ := okD_spec ok
 refine (dskCrash h1 o1 (by omega) vp picks hp (fun he k hk hF => Chg.gxO (hv he) k hk (h2 k hF)) hm).mono ?_
 rintro e w' ⟨rfl, hu⟩
 rw [he] at hu
 exact ⟨rfl, DwS.und h1 h2 h3 hu⟩
theorem lRead (h : DwS w0 X g d w) (ok : okD d = true) (s : ByteArray) {o : Option (List UInt8)} (he : readD d s = o) : Calls Tryz.prog 62 #[.pointer (some ⟨g, 0, none⟩), .string s] w fun e w' => (∃ r, e = .returned (.tuple #[r, .bool o.isSome]) ∧ OwnB w' w.heap.size 5 r (o.getD [])) ∧ Below w.heap.size w w' := by
 obtain ⟨⟨F, h1, h2⟩, h3⟩ := h
 subst he
 refine (dskRead h1 (okD_spec ok).1.tot s).mono ?_
 rintro e w' ⟨r, rfl, h5, h6⟩
 exact ⟨⟨r, rfl, h5⟩, h6⟩
theorem lNames (h : DwS w0 X g d w) (ok : okD d = true) : Calls Tryz.prog 34 #[.pointer (some ⟨g, 0, none⟩)] w fun e w' => (∃ r, e = .returned r ∧ OwnR strE w' w.heap.size 9 r (d.fs.map (·.name))) ∧ Below w.heap.size w w' := by
 obtain ⟨⟨F, h1, h2⟩, h3⟩ := h
 refine (dskNames h1 (okD_spec ok).1.len).mono ?_
 rintro e w' ⟨r, rfl, h5, h6⟩
 exact ⟨⟨r, rfl, h5⟩, h6⟩
end
abbrev noX : Nat → Prop := fun _ => False
def oneX (b : Nat) : Nat → Prop := fun k => k = b
theorem DwS.one {w0 w : World} {g : Nat} {d : Dk} (h : DwS w0 noX g d w) (o : Obj) : DwS w0 (oneX w.heap.size) g d (w.alloc o) := (h.alloc o).mono fun _ hk => .inr hk
theorem nil_own {A : Prop} {w0 : World} {X : Nat → Prop} {n c : Nat} : A → ∀ k, (Value.slice none n c).ownBlock = some k → k < w0.heap.size ∨ X k := fun _ k h => by simp [Value.ownBlock] at h
end Go.Proofs.YtgpgcnmnfnnkjaaGreatDoor
end

section
namespace Go.Proofs.YtgpgcnmnfnnkjaaGreatDoor
open Go Go.RowKit BigFrame Go.PlainAid
attribute [local go_sem] After.same
attribute [local go_sem] xor255_u8
set_option maxRecDepth 8000 in
set_option maxHeartbeats 8000000 in
set_option maxRecDepth 100000 in
theorem refCrash {F : Nat → Prop} {g : Nat} {d : Dk} {w : World} (hd : RefAt w F g d) (ok : OkD d) (hfs : d.fs.length ≤ 1000000) (vp : Value) (picks : List Int) (hp : Rd intsE w vp picks) (hpF : picks ≠ [] → ∀ k, vp.ownBlock = some k → ¬ F k) (hpm : ∀ x ∈ picks, x ≤ 9223372036854775807) :
 Calls Tryz.prog 29 #[.pointer (some ⟨g, 0, none⟩), vp] w fun e w' => e = .returned (.tuple #[]) ∧ UndR w F g (crashD d picks) w' := by
 have hlt := hd.lt
 obtain ⟨pp, cp, rfl, hp1, hp2, _, _⟩ := hp.form
 unfold maxLen at hp2
 obtain ⟨v, ys, hv, hy⟩ := hd
 have hyl : ys.length = d.fs.length := by rw [← hy, List.length_map]
 have hys : ys.length ≤ 1000000 := by rw [hyl]; exact hfs
 have s1 := hv.setCell 2 (.bool false) rfl
 have s2 := s1.1.setCell 1 (.int .i64 (-1)) rfl
 have c1 := hv.blk.cell 1 _ rfl
 have c2 := hv.blk.cell 2 _ rfl
 have f1 := hv.blk.frozen 1
 have f2 := hv.blk.frozen 2
 have chA : Chg F w ((w.setCell ⟨g, 2, none⟩ (.bool false)).setCell ⟨g, 1, none⟩ (.int .i64 (-1))) := (s1.2.step s2.2).mono fun k _ hk => by rw [hk]; exact hv.inG
 have hvA : RefV _ (FF F w ((w.setCell ⟨g, 2, none⟩ (.bool false)).setCell ⟨g, 1, none⟩ (.int .i64 (-1)))) g v (.int .i64 (-1)) (.bool false) ys := s2.1.ff chA.size
 have HvA := Lib.hid hvA
 have ChA := Lib.hid chA
 have Hp := Lib.hid hp
 have HpF := Lib.hid hpF
 have Hpm := Lib.hid hpm
 have Hy := Lib.hid hy
 have Hyl := Lib.hid hyl
 have hok1 := ok.tot
 have Hok2 := Lib.hid ok.kept
 obtain ⟨pv, cap, rfl, hq1, hq2, _, _⟩ := hv.fil.row.rd.form
 unfold maxLen at hq2
 clear s1 s2 hvA chA hv hy hp hpF hpm ok hyl
 go_enter Tryz.func29, Tryz.ntmps29
 go_upto_block 0 with (fail)
 clear c1 c2 f1 f2
 generalize hwA : (w.setCell ⟨g, 2, none⟩ (.bool false)).setCell ⟨g, 1, none⟩ (.int .i64 (-1)) = wA at *
 clear hwA
 go_wp2_with fail
 go_loopw [4] (fun i wr => ∃ (k : Nat) (zs : List Ent), k ≤ ys.length ∧ i = .int .i64 k ∧ RefV wr (FF F w wr) g (.slice pv ys.length cap) (.int .i64 (-1)) (.bool false) zs ∧ Hid (zs.map Ent.fil = crS picks d.fs k) ∧ Hid (zs.length = ys.length) ∧ Chg F w wr) (fun i _ => ys.length - (intOf i).toNat)
 case atStart => exact ⟨0, ys, by omega, rfl, HvA.out, by show _ = _; rw [crS_zero]; exact Hy.out, rfl, ChA.out⟩
 case round =>
  clear HvA ChA
  obtain ⟨k, zs, hk, rfl, hv, hzf, hzl, ch⟩ := hrel
  have hk0 : (0 : Int) ≤ (k : Int) := by omega
  have k0 := hv.blk.cell 0 _ rfl
  by_cases hlt2 : k < ys.length
  · have hi : (k : Int) < (ys.length : Int) := by omega
    have hkz : k < zs.length := by have := hzl.out; omega
    have hkd : k < d.fs.length := by rw [← Hyl.out]; exact hlt2
    obtain ⟨gv, cap', hsh, _, hgv, hq3, hq4⟩ := hv.fil.row.head (by omega)
    rw [hzl.out] at hsh
    simp only [Value.slice.injEq, true_and] at hsh
    obtain ⟨rfl, rfl⟩ := hsh
    clear hq3 hq4
    have hmem : zs[k] ∈ zs := List.getElem_mem hkz
    have hdat := hv.fil.data _ hmem
    have row0 := hv.fil.row
    have c1 : wr.cell? ⟨gv, k * 3 + 1, none⟩ = some (.slice zs[k].p zs[k].data.length zs[k].c) := row0.cellAt hzl.out.symm k hkz 1 (by decide)
    have c2 : wr.cell? ⟨gv, k * 3 + 2, none⟩ = some (.int .i64 ((zs[k]).kept : Int)) := row0.cellAt hzl.out.symm k hkz 2 (by decide)
    have hfz : (zs[k]).fil = d.fs[k] := by
     have h1 : k < (crS picks d.fs k).length := by rw [crS_length _ _ (Nat.le_of_lt hkd)]; exact hkd
     have h2 := crS_at picks d.fs hkd h1
     rw [← h2]; simp only [← hzf.out, List.getElem_map]
    have hkl : (zs[k]).kept ≤ (zs[k]).data.length := by
     have h1 := Hok2.out (zs[k]).fil (by rw [hfz]; exact List.getElem_mem hkd)
     exact h1
    have hdl : (zs[k]).data.length ≤ 4194304 := by
     have h1 := totD_mem (l := d.fs) (f := (zs[k]).fil) (by rw [hfz]; exact List.getElem_mem hkd)
     have h2 : (zs[k]).fil.data.length = (zs[k]).data.length := rfl
     omega
    have hstp := Lib.hid (crS_step picks d.fs hkd)
    have Hv := Lib.hid hv
    obtain ⟨y, hy⟩ : ∃ y, zs[k] = y := ⟨_, rfl⟩
    have HY := Lib.hid hy
    rw [hy] at hdat c1 c2 hfz hkl hdl
    have Hfz := Lib.hid hfz
    have hgl := hv.lt g hv.inG
    have Hdat := Lib.hid hdat
    obtain ⟨u, hu⟩ : ∃ u, y.data.length = y.kept + u := ⟨y.data.length - y.kept, by omega⟩
    have HT := Lib.hid (tornD_eq (pick := pk picks k) (f := y.fil) hu)
    obtain ⟨P, hP⟩ : ∃ P, (pk picks k).toNat = P := ⟨_, rfl⟩
    rw [hP] at HT
    have hPk : pk picks k ≤ 9223372036854775807 := by
     unfold pk
     by_cases hpk : k < picks.length
     · rw [List.getElem?_eq_getElem hpk]; exact Hpm.out _ (List.getElem_mem hpk)
     · rw [List.getElem?_eq_none (by omega)]; decide
    have hPm : (P : Int) ≤ 9223372036854775807 := by omega
    have he5 : (y.data.length : Int) - (y.kept : Int) = (u : Int) := by omega
    have hul : (u : Int) ≤ 4194304 := by omega
    have hu0 : (0 : Int) ≤ (u : Int) := by omega
    have Hu := Lib.hid hu
    have HP := Lib.hid hP
    have E5 := Lib.hid he5
    have hcpk : Hid (∀ hpk : k < picks.length, ∃ pb po, pp = some ⟨pb, po, none⟩ ∧ wr.cell? ⟨pb, po + k, none⟩ = some (.int .i64 picks[k])) := fun hpk => by
     obtain ⟨pb, po, rfl⟩ := Rd.blk Hp.out (by omega)
     refine ⟨pb, po, rfl, ?_⟩
     have h1 : Rd intsE wr (.slice (some ⟨pb, po, none⟩) picks.length cp) picks := ch.cells Hp.out (HpF.out (fun e => by rw [e] at hpk; simp at hpk))
     have h2 := h1.at_ hpk 0 (by decide)
     have h3 : po + (k * intsE.sz + 0) = po + k := by show po + (k * 1 + 0) = _; omega
     rw [h3] at h2; exact h2
    clear hy hmem hfz hv row0 hu hP he5 hPk hdat
    go_upto_region 5 with (fail)
    go_cut [35] from 25 (fun q wi => q = .bool (decide (0 < P)) ∧ wi = wr)
    case first =>
     by_cases hpk : k < picks.length
     · have hpi : (k : Int) < (picks.length : Int) := by omega
       obtain ⟨pb, po, rfl, hcp⟩ := hcpk.out hpk
       have hpe : pk picks k = picks[k] := by unfold pk; rw [List.getElem?_eq_getElem hpk]; rfl
       have hPe : P = (picks[k]).toNat := by rw [← hpe, HP.out]
       have HPe := Lib.hid hPe
       clear hpe hPe
       generalize picks[k] = pick at *
       by_cases hpos : 0 < pick
       · have Hq : Hid (0 < P) := by show _ < _; rw [HPe.out]; omega
         go_wp2_with fail
         go_meet
         exact ⟨by rw [decide_eq_true Hq.out], rfl⟩
       · have Hq : Hid (¬ 0 < P) := by show ¬ _ < _; rw [HPe.out]; omega
         go_wp2_with fail
         go_meet
         exact ⟨by rw [decide_eq_false Hq.out], rfl⟩
     · have hpi : ¬ (k : Int) < (picks.length : Int) := by omega
       have Hq : Hid (¬ 0 < P) := by show ¬ _ < _; rw [← HP.out]; unfold pk; rw [List.getElem?_eq_none (by omega)]; decide
       go_wp2_with fail
       go_meet
       exact ⟨by rw [decide_eq_false Hq.out], rfl⟩
    case rest =>
    obtain ⟨rfl, rfl⟩ := hcut
    obtain ⟨wr, hwr⟩ : ∃ z, z = wc := ⟨_, rfl⟩
    subst hwr
    go_upto_if 35 with (fail)
    go_cut [5] from 35 (fun q wi => q = .int .i64 (P : Int) ∧ wi = wr)
    case first =>
     by_cases hpos : 0 < P
     · rw [decide_eq_true hpos]
       have hpk : k < picks.length := by
        rcases Nat.lt_or_ge k picks.length with h | h
        · exact h
        · exfalso
          have h2 := HP.out
          unfold pk at h2
          rw [List.getElem?_eq_none (by omega)] at h2
          have h3 : P = 0 := by rw [← h2]; rfl
          omega
       have hpi : (k : Int) < (picks.length : Int) := by omega
       obtain ⟨pb, po, rfl, hcp⟩ := hcpk.out hpk
       have hpe : pk picks k = picks[k] := by unfold pk; rw [List.getElem?_eq_getElem hpk]; rfl
       have hPe : picks[k] = (P : Int) := by rw [← hpe]; have := HP.out; omega
       rw [hPe] at hcp
       clear hpe hPe
       go_wp2_with fail
       go_meet
       exact ⟨rfl, rfl⟩
     · rw [decide_eq_false hpos]
       have Hq : Hid (P = 0) := by show _ = _; omega
       clear hpos
       go_wp2_with fail
       go_meet
       exact ⟨by rw [Hq.out]; rfl, rfl⟩
    case rest =>
    obtain ⟨rfl, rfl⟩ := hcut
    obtain ⟨wr, hwr⟩ : ∃ z, z = wc := ⟨_, rfl⟩
    subst hwr
    have e5 := E5.out
    go_wp2_with fail
    go_quiet (fail)
    go_upto_region 9 with (fail)
    generalize hwq : World.drewN wr _ = wq at *
    have bq : Below wr.heap.size wr wq := by rw [← hwq]; exact below_drawn _ _ _
    have hvq := Hv.out.ext bq
    have hdq := Hdat.out.ext bq
    have c1q : wq.cell? ⟨gv, k * 3 + 1, none⟩ = some (.slice y.p y.data.length y.c) := (bq.cell (p := ⟨gv, k * 3 + 1, none⟩) hgv).trans c1
    have c2q : wq.cell? ⟨gv, k * 3 + 2, none⟩ = some (.int .i64 (y.kept : Int)) := (bq.cell (p := ⟨gv, k * 3 + 2, none⟩) hgv).trans c2
    clear hwq c1 c2 e5 k0
    go_cut [8] from 56 (fun q wi => q = .int .i64 ((P % (u + 1) : Nat) : Int) ∧ wi = wq)
    case first =>
     have e6 : (P : Int) % ((u : Int) + 1) = ((P % (u + 1) : Nat) : Int) := by rw [Int.natCast_emod]; rfl
     have E6 := Lib.hid e6
     clear e6
     go_wp2_with fail
     go_meet
     refine ⟨?_, rfl⟩
     rw [← E6.out]
    case rest =>
    obtain ⟨rfl, rfl⟩ := hcut
    obtain ⟨wq, hwq⟩ : ∃ z, z = wc := ⟨_, rfl⟩
    subst hwq
    obtain ⟨st, hst⟩ : ∃ st, P % (u + 1) = st := ⟨_, rfl⟩
    obtain ⟨Q, hQ⟩ : ∃ Q, P / (u + 1) = Q := ⟨_, rfl⟩
    have hstu : st ≤ u := by have h : P % (u + 1) < u + 1 := Nat.mod_lt _ (Nat.succ_pos _); rw [hst] at h; omega
    have hle : y.kept + st ≤ y.data.length := by have := Hu.out; omega
    obtain ⟨L, hL⟩ : ∃ L, y.data.take (y.kept + st) = L := ⟨_, rfl⟩
    obtain ⟨N, hN⟩ : ∃ N, L.length = N := ⟨_, rfl⟩
    have hLl : N = y.kept + st := by rw [← hN, ← hL, List.length_take]; omega
    have hB : tornB P u y.kept y.data = if 0 < st ∧ Q % 2 = 1 then flipLast L else L := by unfold tornB; rw [hst, hQ, hL]
    have HB := Lib.hid hB
    have hQP : (Q : Int) ≤ (P : Int) := by rw [← hQ]; exact Int.ofNat_le.2 (Nat.div_le_self _ _)
    have hQ0 : (0 : Int) ≤ (Q : Int) := by omega
    have hQm : (Q : Int) ≤ 9223372036854775807 := by omega
    have hqe : (P : Int) / ((u : Int) + 1) = (Q : Int) := by rw [← hQ, Int.natCast_ediv]; rfl
    have Hqe := Lib.hid hqe
    rw [hst]
    have hbv : Bytes wq (.slice y.p y.data.length y.c) y.data := hdq.bytes
    have hA := run_sub_to tU8 (P := Tryz.prog) hbv .i64 ((y.kept : Int) + (st : Int)) (y.kept + st) (by omega) hle
    have rA := hbv.sub 0 (y.kept + st) (by omega) hle
    rw [show (y.data.drop 0).take (y.kept + st - 0) = L from by rw [← hL]; simp] at rA
    generalize subV (.slice y.p y.data.length y.c) 0 (y.kept + st) 1 = vA at *
    have hkst : (y.kept : Int) + (st : Int) ≤ 4194304 := by omega
    have hst0 : (0 : Int) ≤ (st : Int) := by omega
    have hky0 : (0 : Int) ≤ (y.kept : Int) := by omega
    have hwr2 : IntKind.wrap .i64 ((y.kept : Int) + (st : Int)) = (y.kept : Int) + (st : Int) := by rw [IntKind.wrap_i64]; omega
    have hc1 : Hid ((([] : List UInt8).length + L.length) * 1 ≤ 140737488355328) := by show _ ≤ _; simp only [List.length_nil]; omega
    have bD := below_drew wq.heap.size wq
    have HLl := Lib.hid hLl
    have HN := Lib.hid hN
    clear hst hQ hL hB hqe hLl hbv hN
    go_wp2_with fail
    refine wp_region_F (n := 13) (S := fun w' => w'.cell? ⟨gv, k * 3 + 1, none⟩ = some (.slice y.p y.data.length y.c) ∧ w'.cell? ⟨gv, k * 3 + 2, none⟩ = some (.int .i64 (y.kept : Int))) (by kernel_rfl) ?_
    have hHeld : (fun w' : World => w'.cell? ⟨gv, k * 3 + 1, none⟩ = some (.slice y.p y.data.length y.c) ∧ w'.cell? ⟨gv, k * 3 + 2, none⟩ = some (.int .i64 (y.kept : Int))) wq.drew := ⟨c1q, c2q⟩
    have hgq : gv < wq.heap.size := Nat.lt_of_lt_of_le hgv bq.size
    refine wpAnyF_tk 1 _ _ _ (v := ?_) rfl (by kernel_rfl) (fun _ _ _ h => h) ?_ hHeld ?_
    rotate_left
    · intro w hSw
      try dsimp only at hSw
      obtain ⟨_, _⟩ := hSw
      dsimp only [bare]
      go_simp <;> with_reducible rfl
    try simp only [bare, Act.put, lyA, lyZ, lyS]
    refine wpAnyF_tk 2 _ _ _ (v := ?_) rfl (by kernel_rfl) (fun _ _ _ h => h) ?_ hHeld ?_
    rotate_left
    · intro w hSw
      try dsimp only at hSw
      obtain ⟨_, _⟩ := hSw
      dsimp only [bare]
      go_simp <;> with_reducible rfl
    try simp only [bare, Act.put, lyA, lyZ, lyS]
    refine wpAnyF_tk 3 _ _ _ (v := ?_) rfl (by kernel_rfl) (fun _ _ _ h => h) ?_ hHeld ?_
    rotate_left
    · intro w hSw
      try dsimp only at hSw
      obtain ⟨_, _⟩ := hSw
      dsimp only [bare]
      go_simp <;> with_reducible rfl
    try simp only [bare, Act.put, lyA, lyZ, lyS]
    refine wpAnyF_tk 4 _ _ _ (v := ?_) rfl (by kernel_rfl) (fun _ _ _ h => h) ?_ hHeld ?_
    rotate_left
    · intro w hSw
      try dsimp only at hSw
      obtain ⟨_, _⟩ := hSw
      dsimp only [bare]
      go_simp <;> with_reducible rfl
    try simp only [bare, Act.put, lyA, lyZ, lyS]
    refine wpAnyF_tk 5 _ _ _ (v := ?_) rfl (by kernel_rfl) (fun _ _ _ h => h) ?_ hHeld ?_
    rotate_left
    · intro w hSw
      try dsimp only at hSw
      obtain ⟨_, _⟩ := hSw
      dsimp only [bare]
      go_simp <;> with_reducible rfl
    try simp only [bare, Act.put, lyA, lyZ, lyS]
    refine wpAnyF_tk 6 _ _ _ (v := ?_) rfl (by kernel_rfl) (fun _ _ _ h => h) ?_ hHeld ?_
    rotate_left
    · intro w hSw
      try dsimp only at hSw
      obtain ⟨_, _⟩ := hSw
      dsimp only [bare]
      go_simp <;> with_reducible rfl
    try simp only [bare, Act.put, lyA, lyZ, lyS]
    refine wpAnyF_tk 7 _ _ _ (v := ?_) rfl (by kernel_rfl) (fun _ _ _ h => h) ?_ hHeld ?_
    rotate_left
    · intro w hSw
      try dsimp only at hSw
      obtain ⟨_, _⟩ := hSw
      dsimp only [bare]
      go_simp <;> with_reducible rfl
    try simp only [bare, Act.put, lyA, lyZ, lyS]
    refine wpAnyF_tk 8 _ _ _ (v := ?_) rfl (by kernel_rfl) (fun _ _ _ h => h) ?_ hHeld ?_
    rotate_left
    · intro w hSw
      try dsimp only at hSw
      obtain ⟨_, _⟩ := hSw
      dsimp only [bare]
      go_simp <;> with_reducible rfl
    try simp only [bare, Act.put, lyA, lyZ, lyS]
    refine wpAnyF_tk 9 _ _ _ (v := ?_) rfl (by kernel_rfl) (fun _ _ _ h => h) ?_ hHeld ?_
    rotate_left
    · intro w hSw
      try dsimp only at hSw
      obtain ⟨_, _⟩ := hSw
      dsimp only [bare]
      go_simp <;> with_reducible rfl
    try simp only [bare, Act.put, lyA, lyZ, lyS]
    refine wpAnyF_tk 10 _ _ _ (v := ?_) rfl (by kernel_rfl) (fun _ _ _ h => h) ?_ hHeld ?_
    rotate_left
    · intro w hSw
      try dsimp only at hSw
      obtain ⟨_, _⟩ := hSw
      dsimp only [bare]
      go_simp <;> with_reducible rfl
    try simp only [bare, Act.put, lyA, lyZ, lyS]
    refine wpAnyF_tk 11 _ _ _ (v := ?_) rfl (by kernel_rfl) (fun _ _ _ h => h) ?_ hHeld ?_
    rotate_left
    · intro w hSw
      try dsimp only at hSw
      obtain ⟨_, _⟩ := hSw
      dsimp only [bare]
      go_simp <;> with_reducible rfl
    try simp only [bare, Act.put, lyA, lyZ, lyS]
    refine wpAnyF_one 0 (some 60) (Op.buildSlice 26 0 #[]) 26 rfl (by kernel_rfl) (fun K hK => ?_)
    have ownE := emptyB wq.drew 5 wq.heap.size wq.drew.heap.size rfl bD.size
    have bE := bD.trans ((below_alloc wq.drew (.cells #[] 5)).mono bD.size)
    dsimp only [bare]; go_simp
    refine hK _ _ ⟨((bE).cell (p := ⟨gv, k * 3 + 1, none⟩) hgq).trans c1q, ((bE).cell (p := ⟨gv, k * 3 + 2, none⟩) hgq).trans c2q⟩ (fun hHeld => ?_)
    clear hK K
    try simp only [bare, Act.put, lyA, lyZ, lyS]
    refine wpAnyF_one 12 (some 72) (Op.call { callee := Callee.builtin Builtin.append, args := #[Operand.tmp 60, Operand.tmp 71], argTypes := #[26, 26] }) 26 rfl (by kernel_rfl) (fun K hK => ?_)
    refine step_appB (s := .tmp 60) (y := .tmp 71) (B := wq.heap.size) (l := []) (m := L) tU8 rfl rfl ownE (by simp [Act.eval, Act.put]) (rA.ext bE) (by simp [Act.eval, Act.put]) hc1.out bE.size ?_
    intro v8 w8 own8 g8 b8
    have bF := bE.trans b8
    refine hK _ _ ⟨((bF).cell (p := ⟨gv, k * 3 + 1, none⟩) hgq).trans c1q, ((bF).cell (p := ⟨gv, k * 3 + 2, none⟩) hgq).trans c2q⟩ (fun hHeld => ?_)
    clear hK K
    try simp only [bare, Act.put, lyA, lyZ, lyS]
    have own9 : OwnB w8 wq.heap.size 5 v8 L := by have h := own8; rw [List.nil_append] at h; exact h
    obtain ⟨p6, c6, rfl⟩ := own9.bytes.shapeN HN.out
    have bZ : Below wr.heap.size wr w8 := bq.trans (bF.mono bq.size)
    have own9 := Own.base own9 bq.size
    have hNm : N ≤ 4194304 := by have := HLl.out; omega
    refine wpAnyF_end (some 9) (Op.assign (Operand.tmp 72)) 26 rfl (by kernel_rfl) (by kernel_rfl) (fun K hK => ?_)
    dsimp only [bare]; go_simp
    refine hK _ _ ?_
    clear hK K
    try simp only [bare, Act.put, lyA, lyZ, lyS]
    clear ownE own8 g8 b8 bE bF bD rA hA hvq hdq c1q c2q hHeld hwr2 hc1 bq hgq
    go_upto_region 11 with (fail)
    go_cut [82] from 73 (fun q wi => q = .bool (decide (0 < st ∧ Q % 2 = 1)) ∧ wi = w8)
    case first =>
     by_cases h0 : 0 < st
     · have hi3 : (0 : Int) < (st : Int) := by omega
       have e8 := Hqe.out
       by_cases hq : Q % 2 = 1
       · have hq2 : (((Q : Int) % 2) == 1) = true := by simp; omega
         have hd := Lib.hid (decide_eq_true (And.intro h0 hq))
         clear hq h0
         go_wp2_with fail
         go_meet
         exact ⟨by rw [hd.out], rfl⟩
       · have hq2 : (((Q : Int) % 2) == 1) = false := by simp; omega
         have hd := Lib.hid (decide_eq_false (fun h : 0 < st ∧ Q % 2 = 1 => hq h.2))
         clear hq h0
         go_wp2_with fail
         go_meet
         exact ⟨by rw [hd.out], rfl⟩
     · have hi3 : ¬ (0 : Int) < (st : Int) := by omega
       have hd := Lib.hid (decide_eq_false (fun h : 0 < st ∧ Q % 2 = 1 => h0 h.1))
       clear h0
       go_wp2_with fail
       go_meet
       exact ⟨by rw [hd.out], rfl⟩
    case rest =>
    obtain ⟨rfl, rfl⟩ := hcut
    obtain ⟨w8, hw8⟩ : ∃ z, z = wc := ⟨_, rfl⟩
    subst hw8
    go_upto_if 82 with (fail)
    go_cut [] from 82 (fun wi => ∃ L', L'.length = N ∧ tornB P u y.kept y.data = L' ∧ OwnB wi wr.heap.size 5 (.slice p6 N c6) L' ∧ Below wr.heap.size wr wi)
    case first =>
     by_cases hc : 0 < st ∧ Q % 2 = 1
     · have hB := HB.out
       rw [if_pos hc] at hB
       rw [decide_eq_true hc]
       obtain ⟨m, hm⟩ : ∃ m, N = m + 1 := ⟨N - 1, by have := HLl.out; omega⟩
       have hmL : L.length = m + 1 := by rw [HN.out, hm]
       rw [flipLast_at hmL] at hB
       have HB2 := Lib.hid hB
       have hm2 : m < L.length := by omega
       obtain ⟨g6, cc, hsh, hg1, hg2, hg3, hg4⟩ := OwnB.head own9 (by omega)
       rw [HN.out] at hsh
       simp only [Value.slice.injEq, true_and] at hsh
       obtain ⟨rfl, rfl⟩ := hsh
       have hst8 := OwnB.stored own9 HN.out.symm m (L[m] ^^^ 255)
       have cm := OwnB.cellAt own9 HN.out.symm m hm2
       have fm := OwnB.frozenAt own9 HN.out.symm m
       have hb8 := bZ.trans (below_grown hst8.2 bZ.size (fun k h => by cases h; omega))
       have Hall := Lib.hid (And.intro hst8.1 hb8)
       have hm0 : (0 : Int) ≤ (m : Int) := by omega
       have hmb : (m : Int) ≤ 4194304 := by omega
       generalize L[m] = x at *
       clear hst8 hb8 own9 hB hg3 hc hm2 hg4 hmL
       subst hm
       go_wp2_with fail
       go_meet
       exact ⟨_, by rw [List.length_set]; exact HN.out, HB2.out, Hall.out.1, Hall.out.2⟩
     · have hB := HB.out
       rw [if_neg hc] at hB
       rw [decide_eq_false hc]
       have HB2 := Lib.hid hB
       have Own9 := Lib.hid own9
       clear hB hc own9
       go_wp2_with fail
       go_meet
       exact ⟨L, HN.out, HB2.out, Own9.out, bZ⟩
    case rest =>
    obtain ⟨L', hL', hBt, own, bi⟩ := hcut
    clear own9 bZ
    obtain ⟨wi, hwi⟩ : ∃ z, z = wc := ⟨_, rfl⟩
    subst hwi
    have hvi := Hv.out.ext bi
    have rowi := hvi.fil.row
    have hzk : zs[k] = y := HY.out
    have hst1 := rowi.stored hzl.out.symm k hkz 1 (by decide) (.slice p6 N c6) rfl ⟨y.name, p6, c6, L', y.kept⟩ (by rw [hzk]; show [_, _, _] = _; rw [show (⟨y.name, p6, c6, L', y.kept⟩ : Ent).data.length = N from hL']; rfl)
    have hst2 := hst1.1.stored (by rw [List.length_set]; exact hzl.out.symm) k (by simpa using hkz) 2 (by decide) (.int .i64 (N : Int)) rfl ⟨y.name, p6, c6, L', L'.length⟩ (by rw [List.getElem_set_self]; show [_, _, _] = _; rw [show (⟨y.name, p6, c6, L', L'.length⟩ : Ent).kept = N from hL']; rfl)
    rw [List.set_set] at hst2
    have ow : OwnB wi wr.heap.size 5 (⟨y.name, p6, c6, L', L'.length⟩ : Ent).v L' := by unfold Ent.v; rw [hL']; exact own
    have hset := Hv.out.setEnt (n := ys.length) (w1 := wi) hkz (y := ⟨y.name, p6, c6, L', L'.length⟩) (Chg.of_below bi) (Own.base ow (Nat.zero_le _)) (.inr fun n hn => (OwnB.lt ow n hn).1) hst2.1 (grown_tr hst1.2 hst2.2)
    have hfin := RefV.seqU hset hlt ch
    have hzt : (⟨y.name, p6, c6, L', L'.length⟩ : Ent).fil = tornD (pk picks k) y.fil := by
     rw [HT.out]
     show (⟨y.name, L', L'.length⟩ : Fil) = ⟨y.name, tornB P u y.kept y.data, (tornB P u y.kept y.data).length⟩
     rw [hBt]
    have hmap : (zs.set k ⟨y.name, p6, c6, L', L'.length⟩).map Ent.fil = crS picks d.fs (k + 1) := by rw [map_set_fil, hzf.out, hzt, Hfz.out]; exact hstp.out
    have Hfin := Lib.hid hfin
    have Hmap := Lib.hid hmap
    have Hlen : Hid ((zs.set k ⟨y.name, p6, c6, L', L'.length⟩).length = ys.length) := by show _ = _; rw [List.length_set]; exact hzl.out
    have i1 : wi.cell? ⟨gv, k * 3 + 1, none⟩ = some (.slice y.p y.data.length y.c) := by have h := rowi.cellAt hzl.out.symm k hkz 1 (by decide); rw [hzk] at h; exact h
    have i2 : wi.cell? ⟨gv, k * 3 + 2, none⟩ = some (.int .i64 (y.kept : Int)) := by have h := rowi.cellAt hzl.out.symm k hkz 2 (by decide); rw [hzk] at h; exact h
    have q1 := rowi.frozenAt hzl.out.symm (k * 3 + 1)
    have q2 := rowi.frozenAt hzl.out.symm (k * 3 + 2)
    clear hst1 hst2 hset hfin hzt hmap hvi rowi ow own hBt hL' hzk Hv
    go_wp2_with fail
    go_roundw
    case rel => first | exact ⟨k + 1, _, by omega, by go_num, Hfin.out.1, Hmap.out, Hlen.out, Hfin.out.2⟩ | ((repeat apply Exists.intro); exact ⟨⟨k + 1, _, by omega, by go_num, Hfin.out.1, Hmap.out, Hlen.out, Hfin.out.2⟩, rfl⟩)
    case measure => simp [intOf]; omega
  · have hi : ¬ (k : Int) < (ys.length : Int) := by omega
    have hend := crS_end picks d.fs (k := k) (by rw [← Hyl.out]; omega)
    have hz : zs.map Ent.fil = (crashD d picks).fs := by rw [hzf.out, hend]; rfl
    have Hz := Lib.hid hz
    clear hend hz
    go_wp2_with fail
    go_end0
    exact ⟨rfl, ⟨_, zs, hv, Hz.out⟩, ch⟩
end Go.Proofs.YtgpgcnmnfnnkjaaGreatDoor
end

section
namespace Go.Proofs.YtgpgcnmnfnnkjaaGreatDoor
open Go Go.RowKit BigFrame Go.PlainAid
def RfS (w0 : World) (X : Nat → Prop) (g : Nat) (d : Dk) (w : World) : Prop := (∃ F, RefAt w F g d ∧ ∀ k, F k → Gx w0 X k) ∧ (∀ k, X k → k < w.heap.size)
section
variable {w0 w w' : World} {X Y : Nat → Prop} {g : Nat} {d d' : Dk}
theorem RfS.size (h : RfS w0 X g d w) : w0.heap.size ≤ w.heap.size := by
 obtain ⟨⟨F, h1, h2⟩, _⟩ := h
 have := (h2 g h1.inG).1
 have := h1.lt g h1.inG
 omega
theorem RfS.und {F : Nat → Prop} (h1 : RefAt w F g d) (h2 : ∀ k, F k → Gx w0 X k) (hx : ∀ k, X k → k < w.heap.size) (h : UndR w F g d' w') : RfS w0 X g d' w' ∧ Chg (Gx w0 X) w w' := by
 have hs : w0.heap.size ≤ w.heap.size := RfS.size ⟨⟨F, h1, h2⟩, hx⟩
 refine ⟨⟨⟨_, h.1, fun k hk => ?_⟩, fun k hk => Nat.lt_of_lt_of_le (hx k hk) h.2.size⟩, h.2.mono fun k _ hk => h2 k hk⟩
 rcases hk with hk | hk
 · exact h2 k hk
 · exact ⟨by omega, fun hX => by have := hx k hX; omega⟩
theorem RfS.ext (h : RfS w0 X g d w) (hb : Below w.heap.size w w') : RfS w0 X g d w' := by
 obtain ⟨⟨F, h1, h2⟩, h3⟩ := h
 exact ⟨⟨F, h1.ext hb, h2⟩, fun k hk => Nat.lt_of_lt_of_le (h3 k hk) hb.size⟩
theorem RfS.drewN (h : RfS w0 X g d w) (n : Nat) : RfS w0 X g d (w.drewN n) := h.ext (below_drawn _ _ _)
theorem RfS.drew (h : RfS w0 X g d w) : RfS w0 X g d w.drew := h.ext (below_drew _ _)
theorem RfS.mono (h : RfS w0 X g d w) (hy : ∀ k, Y k → X k) : RfS w0 Y g d w := by
 obtain ⟨⟨F, h1, h2⟩, h3⟩ := h
 exact ⟨⟨F, h1, fun k hk => ⟨(h2 k hk).1, fun hY => (h2 k hk).2 (hy k hY)⟩⟩, fun k hk => h3 k (hy k hk)⟩
theorem RfS.more (h : RfS w0 X g d w) (hb : Below w.heap.size w w') (hy : ∀ k, Y k → X k ∨ (w.heap.size ≤ k ∧ k < w'.heap.size)) : RfS w0 Y g d w' := by
 obtain ⟨⟨F, h1, h2⟩, h3⟩ := h
 refine ⟨⟨F, h1.ext hb, fun k hk => ⟨(h2 k hk).1, fun hY => ?_⟩⟩, fun k hk => ?_⟩
 · rcases hy k hY with h | h
   · exact (h2 k hk).2 h
   · have := h1.lt k hk; omega
 · rcases hy k hk with h | h
   · exact Nat.lt_of_lt_of_le (h3 k h) hb.size
   · exact h.2
theorem RfS.alloc (h : RfS w0 X g d w) (o : Obj) : RfS w0 (fun k => X k ∨ k = w.heap.size) g d (w.alloc o) :=
 h.more (below_alloc _ _) fun k hk => hk.imp id fun e => by subst e; exact ⟨Nat.le_refl _, by simp⟩
theorem RfS.chgX {G : Nat → Prop} (h : RfS w0 X g d w) (hc : Chg G w w') (hG : ∀ k, G k → X k ∨ k < w0.heap.size) : RfS w0 X g d w' := by
 obtain ⟨⟨F, h1, h2⟩, h3⟩ := h
 refine ⟨⟨F, h1.chg hc fun k hk hg => ?_, h2⟩, fun k hk => Nat.lt_of_lt_of_le (h3 k hk) hc.size⟩
 obtain ⟨a, b⟩ := h2 k hk
 rcases hG k hg with h | h
 · exact b h
 · omega
theorem rNew (w0 w : World) (hs : w0.heap.size ≤ w.heap.size) (X : Nat → Prop) (hx : ∀ k, X k → k < w.heap.size) : Calls Tryz.prog 10 #[] w fun e w' => e = .returned (.pointer (some ⟨w.heap.size, 0, none⟩)) ∧ RfS w0 X w.heap.size dk0 w' ∧ Below w.heap.size w w' :=
 (refNew w).mono fun _ w' ⟨h1, h2, h3⟩ => ⟨h1, ⟨⟨_, h2, fun k hk => ⟨by have := hk.1; omega, fun hX => by have := hk.1; have := hx k hX; omega⟩⟩, fun k hk => Nat.lt_of_lt_of_le (hx k hk) h3.size⟩, h3⟩
theorem rAppend (h : RfS w0 X g d w) (ok : okD d = true) {s : ByteArray} {p : List UInt8} {E : Int} (he : appendD d s p = (E, d')) (hs : s.size ≤ 4611686018427387904) (hpb : p.length ≤ 4611686018427387904) {vp : Value} (hp : Bytes w vp p) (hv : p ≠ [] → ∀ k, vp.ownBlock = some k → k < w0.heap.size ∨ X k) :
 Calls Tryz.prog 18 #[.pointer (some ⟨g, 0, none⟩), .string s, vp] w fun e w' => e = .returned (.int .i64 E) ∧ RfS w0 X g d' w' ∧ Chg (Gx w0 X) w w' := by
 obtain ⟨⟨F, h1, h2⟩, h3⟩ := h
 obtain ⟨o1, o2⟩ := okD_spec ok
 refine (refAppend h1 o1 o2 s hs vp p hpb hp (fun he k hk hF => Chg.gxO (hv he) k hk (h2 k hF))).mono ?_
 rintro e w' ⟨rfl, hu⟩
 rw [he] at hu ⊢
 exact ⟨rfl, RfS.und h1 h2 h3 hu⟩
theorem rSync (h : RfS w0 X g d w) (ok : okD d = true) {s : ByteArray} {E : Int} (he : syncD d s = (E, d')) :
 Calls Tryz.prog 47 #[.pointer (some ⟨g, 0, none⟩), .string s] w fun e w' => e = .returned (.int .i64 E) ∧ RfS w0 X g d' w' ∧ Chg (Gx w0 X) w w' := by
 obtain ⟨⟨F, h1, h2⟩, h3⟩ := h
 obtain ⟨o1, o2⟩ := okD_spec ok
 refine (refSync h1 o1 (by omega) s).mono ?_
 rintro e w' ⟨rfl, hu⟩
 rw [he] at hu ⊢
 exact ⟨rfl, RfS.und h1 h2 h3 hu⟩
theorem rCut (h : RfS w0 X g d w) (ok : okD d = true) {s : ByteArray} {n E : Int} (he : cutD d s n = (E, d')) :
 Calls Tryz.prog 45 #[.pointer (some ⟨g, 0, none⟩), .string s, .int .i64 n] w fun e w' => e = .returned (.int .i64 E) ∧ RfS w0 X g d' w' ∧ Chg (Gx w0 X) w w' := by
 obtain ⟨⟨F, h1, h2⟩, h3⟩ := h
 obtain ⟨o1, o2⟩ := okD_spec ok
 refine (refCut h1 o1 (by omega) s n).mono ?_
 rintro e w' ⟨rfl, hu⟩
 rw [he] at hu ⊢
 exact ⟨rfl, RfS.und h1 h2 h3 hu⟩
theorem rRemove (h : RfS w0 X g d w) (ok : okD d = true) {s : ByteArray} {E : Int} (he : removeD d s = (E, d')) :
 Calls Tryz.prog 46 #[.pointer (some ⟨g, 0, none⟩), .string s] w fun e w' => e = .returned (.int .i64 E) ∧ RfS w0 X g d' w' ∧ Chg (Gx w0 X) w w' := by
 obtain ⟨⟨F, h1, h2⟩, h3⟩ := h
 obtain ⟨o1, o2⟩ := okD_spec ok
 refine (refRemove h1 o1 (by omega) s).mono ?_
 rintro e w' ⟨rfl, hu⟩
 rw [he] at hu ⊢
 exact ⟨rfl, RfS.und h1 h2 h3 hu⟩
theorem rArm (h : RfS w0 X g d w) (n : Int) : Calls Tryz.prog 27 #[.pointer (some ⟨g, 0, none⟩), .int .i64 n] w fun e w' => e = .returned (.tuple #[]) ∧ RfS w0 X g (armD d n) w' ∧ Chg (Gx w0 X) w w' := by
 obtain ⟨⟨F, h1, h2⟩, h3⟩ := h
 refine (refArm h1 n).mono ?_
 rintro e w' ⟨rfl, hu, hc⟩
 exact ⟨rfl, RfS.und h1 h2 h3 ⟨hu.ff hc.size, hc⟩⟩
theorem rCrash (h : RfS w0 X g d w) (ok : okD d = true) {picks : List Int} (he : crashD d picks = d') {vp : Value} (hp : Rd intsE w vp picks) (hv : picks ≠ [] → ∀ k, vp.ownBlock = some k → k < w0.heap.size ∨ X k) (hm : ∀ x ∈ picks, x ≤ 9223372036854775807) :
 Calls Tryz.prog 29 #[.pointer (some ⟨g, 0, none⟩), vp] w fun e w' => e = .returned (.tuple #[]) ∧ RfS w0 X g d' w' ∧ Chg (Gx w0 X) w w' := by
 obtain ⟨⟨F, h1, h2⟩, h3⟩ := h
 obtain ⟨o1, o2⟩ := okD_spec ok
 refine (refCrash h1 o1 (by omega) vp picks hp (fun he k hk hF => Chg.gxO (hv he) k hk (h2 k hF)) hm).mono ?_
 rintro e w' ⟨rfl, hu⟩
 rw [he] at hu
 exact ⟨rfl, RfS.und h1 h2 h3 hu⟩
theorem rRead (h : RfS w0 X g d w) (s : ByteArray) {o : Option (List UInt8)} (he : readD d s = o) : Calls Tryz.prog 14 #[.pointer (some ⟨g, 0, none⟩), .string s] w fun e w' => (∃ r, e = .returned (.tuple #[r, .bool o.isSome]) ∧ Bytes w' r (o.getD [])) ∧ w = w' := by
 obtain ⟨⟨F, h1, h2⟩, h3⟩ := h
 subst he
 exact refRead h1 s
theorem rNames (h : RfS w0 X g d w) (ok : okD d = true) : Calls Tryz.prog 13 #[.pointer (some ⟨g, 0, none⟩)] w fun e w' => (∃ r, e = .returned r ∧ OwnR strE w' w.heap.size 9 r (d.fs.map (·.name))) ∧ Below w.heap.size w w' := by
 obtain ⟨⟨F, h1, h2⟩, h3⟩ := h
 refine (refNames h1 (okD_spec ok).1.len).mono ?_
 rintro e w' ⟨r, rfl, h5, h6⟩
 exact ⟨⟨r, rfl, h5⟩, h6⟩
end
end Go.Proofs.YtgpgcnmnfnnkjaaGreatDoor
end
