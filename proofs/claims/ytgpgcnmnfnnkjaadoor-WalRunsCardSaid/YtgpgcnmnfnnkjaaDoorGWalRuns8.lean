/- Walks of the disk's quiet functions, second part: power, Arm, Total, Names, Read, New. What the walks of slices.Insert share. -/
import Derived.Test.YtgpgcnmnfnnkjaaDoorGWalRuns7
import Derived.Test.YtgpgcnmnfnnkjaaDoorGWalRuns2
set_option linter.unusedVariables false
set_option linter.unusedSimpArgs false
section
namespace Go.Proofs.YtgpgcnmnfnnkjaaDoor
open Go Go.RowKit BigFrame Go.PlainAid
attribute [local go_sem] After.same
def strE : Enc ByteArray := ⟨1, fun x => [.string x], fun _ => rfl, fun _ v hv => by simp only [List.mem_singleton] at hv; subst hv; rfl, Nat.one_pos⟩
theorem tStr : SlT Tryd.prog 33 9 1 16 := SlT.mk' (z := .string ⟨#[]⟩) Tryd.underlying33 (by kernel_rfl) rfl (by decide) (by decide)
def powE (n : Int) : Int := if n = 0 then 18 else 0
def powL (n : Int) : Int := if 0 < n then n - 1 else n
def powO (o : Bool) (n : Int) : Bool := o || decide (n = 0)
theorem powD_eq (d : Dk) : powD d = (decide (d.left ≠ 0), ⟨d.fs, powO d.off d.left, powL d.left⟩) := by
  unfold powD powO powL
  by_cases h : d.left = 0
  · simp [h]
  · simp [h]
theorem dskPower {F : Nat → Prop} {g : Nat} {v : Value} {o : Bool} {n : Int} {ys : List Ent} {w : World} (hd : DiskV w F g v (.bool o) (.bool (decide (0 ≤ n))) (.int .i64 (max n 0)) ys) (h1 : -1 ≤ n) (h2 : n ≤ 9223372036854775807) :
    Calls Tryd.prog 44 #[.pointer (some ⟨g, 0, none⟩)] w fun e w' => e = .returned (.int .i64 (powE n)) ∧ DiskV w' F g v (.bool (powO o n)) (.bool (decide (0 ≤ powL n))) (.int .i64 (max (powL n) 0)) ys ∧ Chg (fun k => k = g) w w' := by
  have f1 := hd.blk.frozen 1
  have f3 := hd.blk.frozen 3
  rcases Int.lt_trichotomy n 0 with h | h | h
  · have c2 : w.cell? ⟨g, 2, none⟩ = some (.bool false) := by rw [hd.blk.cell 2 _ rfl]; show some (Value.bool (decide (0 ≤ n))) = _; rw [decide_eq_false (by omega)]
    have e1 : powE n = 0 := if_neg (by omega)
    have e2 : powO o n = o := by unfold powO; rw [decide_eq_false (by omega), Bool.or_false]
    have e3 : powL n = n := if_neg (by omega)
    rw [e1, e2, e3]
    have Hd := Lib.hid hd
    clear hd e1 e2 e3 h h1 h2
    go_enter Tryd.func44, Tryd.ntmps44
    go_wp2
    go_ret
    exact ⟨rfl, Hd.out, Chg.refl _ _⟩
  · subst h
    have c2 : w.cell? ⟨g, 2, none⟩ = some (.bool true) := by rw [hd.blk.cell 2 _ rfl]; rfl
    have c3 : w.cell? ⟨g, 3, none⟩ = some (.int .i64 0) := by rw [hd.blk.cell 3 _ rfl]; rfl
    have c1 := hd.blk.cell 1 _ rfl
    have e2 : powO o 0 = true := by unfold powO; simp
    rw [e2]
    have Hd := Lib.hid (hd.setCell 1 (.bool true) rfl)
    clear hd e2 h1 h2
    go_enter Tryd.func44, Tryd.ntmps44
    go_wp2
    go_ret
    exact ⟨rfl, Hd.out.1, Hd.out.2⟩
  · have c2 : w.cell? ⟨g, 2, none⟩ = some (.bool true) := by rw [hd.blk.cell 2 _ rfl]; show some (Value.bool (decide (0 ≤ n))) = _; rw [decide_eq_true (by omega)]
    have c3 : w.cell? ⟨g, 3, none⟩ = some (.int .i64 n) := by rw [hd.blk.cell 3 _ rfl]; show some (Value.int .i64 (max n 0)) = _; rw [Int.max_eq_left (by omega)]
    have e1 : powE n = 0 := if_neg (by omega)
    have e2 : powO o n = o := by unfold powO; rw [decide_eq_false (by omega), Bool.or_false]
    have e3 : powL n = n - 1 := if_pos h
    have e4 : decide (0 ≤ n) = true := decide_eq_true (by omega)
    have e5 : decide (0 ≤ n - 1) = true := decide_eq_true (by omega)
    have e6 : max (n - 1) 0 = n - 1 := Int.max_eq_left (by omega)
    rw [e1, e2, e3, e5, e6]
    rw [e4] at hd
    have Hd := Lib.hid (hd.setCell 3 (.int .i64 (n - 1)) rfl)
    clear hd e1 e2 e3 e4 e5 e6
    go_enter Tryd.func44, Tryd.ntmps44
    go_wp2
    go_ret
    exact ⟨rfl, Hd.out.1, Hd.out.2⟩
theorem dskArm {F : Nat → Prop} {g : Nat} {d : Dk} {w : World} (hd : DiskAt w F g d) (n : Int) :
    Calls Tryd.prog 17 #[.pointer (some ⟨g, 0, none⟩), .int .i64 n] w fun e w' => e = .returned (.tuple #[]) ∧ DiskAt w' F g (armD d n) ∧ Chg (fun k => k = g) w w' := by
  obtain ⟨v, ys, hv, hy⟩ := hd.open_
  have f2 := hv.blk.frozen 2
  have f3 := hv.blk.frozen 3
  have c2 := hv.blk.cell 2 _ rfl
  have c3 := hv.blk.cell 3 _ rfl
  by_cases h : 0 ≤ n
  · have h0 : max n 0 = n := Int.max_eq_left h
    have s1 := hv.setCell 2 (.bool true) rfl
    have s2 := s1.1.setCell 3 (.int .i64 n) rfl
    have hz : DiskAt ((w.setCell ⟨g, 2, none⟩ (.bool true)).setCell ⟨g, 3, none⟩ (.int .i64 n)) F g (armD d n) := by
      refine DiskV.at_ (v := v) (ys := ys) ?_ hy
      have e : (armD d n).left = n := if_neg (by omega)
      rw [e, decide_eq_true h, h0]
      exact s2.1
    have Hz := Lib.hid (And.intro hz (s1.2.step s2.2))
    clear hz s1 s2 hv hd
    go_enter Tryd.func17, Tryd.ntmps17
    go_wp2
    go_end0
    exact ⟨rfl, Hz.out.1, Hz.out.2⟩
  · have h0 : max n 0 = 0 := Int.max_eq_right (by omega)
    have s1 := hv.setCell 2 (.bool false) rfl
    have s2 := s1.1.setCell 3 (.int .i64 0) rfl
    have hz : DiskAt ((w.setCell ⟨g, 2, none⟩ (.bool false)).setCell ⟨g, 3, none⟩ (.int .i64 0)) F g (armD d n) := by
      refine DiskV.at_ (v := v) (ys := ys) ?_ hy
      have e : (armD d n).left = -1 := if_pos (by omega)
      rw [e]
      exact s2.1
    have Hz := Lib.hid (And.intro hz (s1.2.step s2.2))
    have hneg : n < 0 := by omega
    have hdn : decide (0 ≤ n) = false := decide_eq_false h
    clear hz s1 s2 hv hd
    go_enter Tryd.func17, Tryd.ntmps17
    go_wp2
    go_end0
    exact ⟨rfl, Hz.out.1, Hz.out.2⟩
theorem dskTotal {F : Nat → Prop} {g : Nat} {d : Dk} {w : World} (hd : DiskAt w F g d) (ht : totD d.fs ≤ 4611686018427387904) :
    Calls Tryd.prog 91 #[.pointer (some ⟨g, 0, none⟩)] w fun e w' => e = .returned (.int .i64 (totD d.fs)) ∧ Below w.heap.size w w' := by
  obtain ⟨v, ys, hv, hy⟩ := hd.open_
  rw [← hy] at ht ⊢
  clear hy hd
  have rv := hv.fil.row.rd
  have c0 := hv.blk.cell 0 _ rfl
  clear hv
  obtain ⟨p, cap, rfl, h1, h2, h3, h4⟩ := rv.form
  clear h3 h4
  unfold maxLen at h2
  go_enter Tryd.func91, Tryd.ntmps91
  go_wp2
  go_loopw [3, 11] (fun n i wr => ∃ k : Nat, k ≤ ys.length ∧ i = .int .i64 k ∧ n = .int .i64 ((totD ((ys.map Ent.fil).take k) : Nat) : Int) ∧ Below w.heap.size w wr) (fun _ i _ => ys.length - (intOf i).toNat)
  case atStart => exact ⟨0, by omega, rfl, by simp [totD], Below.refl _ _⟩
  case round =>
    obtain ⟨k, hk, rfl, rfl, hb⟩ := hrel
    by_cases hlt : k < ys.length
    · obtain ⟨b, off, rfl⟩ := Rd.blk rv (by omega)
      obtain ⟨c0, c1, c2⟩ := ent3 (rv.ext hb) hlt
      have hi : (k : Int) < (ys.length : Int) := by omega
      have hi0 : (0 : Int) ≤ (k : Int) := by omega
      have hst := totD_take (l := ys.map Ent.fil) (k := k) (by simpa using hlt)
      rw [fil_get] at hst
      have hle := totD_take_le (ys.map Ent.fil) (k + 1)
      have hyd : (ys[k]).fil.data.length = (ys[k]).data.length := rfl
      rw [hyd] at hst
      rw [hst] at hle
      have Hst := Lib.hid hst
      clear hst hyd rv
      generalize totD ((ys.map Ent.fil).take k) = T at *
      generalize ys[k] = y at *
      have q1 : (0 : Int) ≤ (T : Int) := by omega
      have q2 : (T : Int) + (y.data.length : Int) ≤ 4611686018427387904 := by omega
      have q3 : (0 : Int) ≤ (y.data.length : Int) := by omega
      clear hle ht
      have hb2 := hb.trans ((below_alloc wr (.cells #[.string y.name, .slice y.p y.data.length y.c, .int .i64 (y.kept : Int)] 72)).mono hb.size)
      go_wp2
      go_roundw
      case rel => exact ⟨k + 1, by omega, by go_num, by rw [Hst.out]; go_num, hb2⟩
      case measure => simp [intOf]; omega
    · have hkl : k = ys.length := by omega
      have hi : ¬ (k : Int) < (ys.length : Int) := by omega
      have Hk := Lib.hid hkl
      clear hkl
      go_wp2
      go_ret
      exact ⟨ret_int (by rw [Hk.out, List.take_of_length_le (by simp)]), hb⟩
theorem dskNames {F : Nat → Prop} {g : Nat} {d : Dk} {w : World} (hd : DiskAt w F g d) (hl : d.fs.length ≤ 1000000) :
    Calls Tryd.prog 11 #[.pointer (some ⟨g, 0, none⟩)] w fun e w' => ∃ r, e = .returned r ∧ OwnR strE w' w.heap.size 9 r (d.fs.map (·.name)) ∧ Below w.heap.size w w' := by
  obtain ⟨v, ys, hv, hy⟩ := hd.open_
  rw [← hy] at hl ⊢
  rw [List.length_map] at hl
  clear hy hd
  have rv := hv.fil.row.rd
  have c0 := hv.blk.cell 0 _ rfl
  clear hv
  obtain ⟨p, cap, rfl⟩ := rv.shape
  have Hn : Hid ((ys.map Ent.fil).map (·.name) = ys.map (·.name)) := by show _ = _; rw [List.map_map]; rfl
  go_enter Tryd.func11, Tryd.ntmps11
  go_wp2
  go_loopw [3, 11] (fun n i wr => ∃ k : Nat, k ≤ ys.length ∧ i = .int .i64 k ∧ OwnR strE wr w.heap.size 9 n ((ys.map (·.name)).take k) ∧ Below w.heap.size w wr) (fun _ i _ => ys.length - (intOf i).toNat)
  case atStart => exact ⟨0, by omega, rfl, OwnR.nil _ _ _, Below.refl _ _⟩
  case round =>
    obtain ⟨k, hk, rfl, own, hb⟩ := hrel
    by_cases hlt : k < ys.length
    · obtain ⟨b, off, rfl⟩ := Rd.blk rv (by omega)
      obtain ⟨c0, c1, c2⟩ := ent3 (rv.ext hb) hlt
      have hi : (k : Int) < (ys.length : Int) := by omega
      have hi0 : (0 : Int) ≤ (k : Int) := by omega
      have hst : (ys.map (·.name)).take (k + 1) = (ys.map (·.name)).take k ++ [(ys[k]).name] := by rw [List.take_succ_eq_append_getElem (by simpa using hlt)]; simp
      have hlk : ((ys.map (·.name)).take k).length ≤ 1000000 := by rw [List.length_take, List.length_map]; omega
      have Hst := Lib.hid hst
      clear hst rv
      generalize (ys.map (·.name)).take k = T at *
      generalize ys[k] = y at *
      have ca := below_alloc wr (.cells #[.string y.name, .slice y.p y.data.length y.c, .int .i64 (y.kept : Int)] 72)
      generalize hwa : wr.alloc (.cells #[.string y.name, .slice y.p y.data.length y.c, .int .i64 (y.kept : Int)] 72) = wa
      rw [hwa] at ca
      have own2 := own.ext ca
      have hb2 := hb.trans (ca.mono hb.size)
      have cb := below_alloc wa (.cells #[.string y.name] 9)
      have hsz : wa.heap.size = wr.heap.size + 1 := by rw [← hwa]; simp
      have lit := OwnR.litAt strE wa #[.string y.name] 9 [y.name] 1 0 (wr.heap.size + 1) hsz rfl rfl (by unfold maxLen; omega) (Nat.zero_le _)
      clear hsz
      have own3 := own2.ext cb
      have hb3 := hb2.trans (cb.mono hb2.size)
      obtain ⟨pn, cn, rfl⟩ := own3.rd.shape
      subst hwa
      go_wp2_with (first | (at_builtin; refine wpList_appR (E := strE) tStr rfl rfl own3 rfl lit.rd rfl (by simp; omega) hb3.size ?_; intro v4 w4 own4 g4 b4) | fail)
      go_roundw
      case rel => exact ⟨k + 1, by omega, by go_num, by rw [Hst.out]; exact own4, hb3.trans (b4.mono (Nat.le_refl _))⟩
      case measure => simp [intOf]; omega
    · have hkl : k = ys.length := by omega
      have hi : ¬ (k : Int) < (ys.length : Int) := by omega
      have Hk := Lib.hid hkl
      clear hkl
      go_wp2
      go_ret
      exact ⟨_, rfl, by rw [Hk.out, List.take_of_length_le (by simp)] at own; exact own, hb⟩
def ReadsD (w : World) (d : Dk) (s : ByteArray) (e : Ending) (w' : World) : Prop := ∃ r, e = .returned (.tuple #[r, .bool (readD d s).isSome]) ∧ OwnB w' w.heap.size 5 r ((readD d s).getD []) ∧ Below w.heap.size w w'
theorem idxD_spec (l : List Fil) (s : ByteArray) : (idxD l s = -1 ∧ ∀ x ∈ l, hasN s x = false) ∨ ∃ j, ∃ h : j < l.length, idxD l s = (j : Int) ∧ hasN s l[j] = true ∧ ∀ i (h' : i < l.length), i < j → hasN s l[i] = false := by
  rcases placeBy_spec (hasN s) l 0 with h | ⟨j, h, h1, h2, h3⟩
  · exact .inl h
  · exact .inr ⟨j, h, by unfold idxD; rw [h1, Nat.zero_add], h2, h3⟩
theorem tBytes : SlT Tryd.prog 64 5 1 1 := tU8
theorem dskRead {F : Nat → Prop} {g : Nat} {d : Dk} {w : World} (hd : DiskAt w F g d) (ht : totD d.fs ≤ 4194304) (s : ByteArray) :
    Calls Tryd.prog 25 #[.pointer (some ⟨g, 0, none⟩), .string s] w (ReadsD w d s) := by
  have hfind := dskFind F g d s w hd
  obtain ⟨v, ys, hv, hy⟩ := hd.open_
  rcases idxD_spec d.fs s with ⟨hx, _⟩ | ⟨j, hj, hx, _, _⟩
  · have hr : readD d s = none := by unfold readD; rw [if_pos (by omega)]
    have Hr := Lib.hid hr
    rw [hx] at hfind
    clear hr hx hv hy hd
    go_enter Tryd.func25, Tryd.ntmps25
    go_wp2_with (go_at_call 47; refine hfind.mono ?_; rintro e w' ⟨rfl, hb⟩)
    go_ret2
    exact ⟨_, by rw [Hr.out]; rfl, by rw [Hr.out]; exact OwnB.nil _ _ _, hb⟩
  · have hjy : j < ys.length := by rw [DiskV.len_eq hy]; exact hj
    have hfj : d.fs[j]? = some (ys[j]).fil := by rw [← hy, List.getElem?_map, List.getElem?_eq_getElem hjy]; rfl
    have hr : readD d s = some (ys[j]).data := by unfold readD; rw [if_neg (by omega), hx, Int.toNat_natCast, hfj]; rfl
    have Hr := Lib.hid hr
    rw [hx] at hfind
    have hmem : ys[j] ∈ ys := List.getElem_mem hjy
    have hdat := (hv.fil.data _ hmem).bytes
    have hlen : (ys[j]).data.length ≤ 4194304 := by
      have h1 := totD_mem (l := d.fs) (f := (ys[j]).fil) (by rw [← hy]; exact List.mem_map.2 ⟨_, hmem, rfl⟩)
      have h2 : (ys[j]).fil.data.length = (ys[j]).data.length := rfl
      omega
    have rv := hv.fil.row.rd
    have c0 := hv.blk.cell 0 _ rfl
    have hgl := hv.lt g hv.inG
    have hji : (j : Int) < (ys.length : Int) := by omega
    have hj0 : (0 : Int) ≤ (j : Int) := by omega
    obtain ⟨b, off, cap, rfl⟩ : ∃ b off cap, v = .slice (some ⟨b, off, none⟩) ys.length cap := by
      obtain ⟨p, cap, rfl⟩ := rv.shape
      obtain ⟨b, off, rfl⟩ := Rd.blk rv (by omega)
      exact ⟨b, off, cap, rfl⟩
    clear hr hx hy hd hfj hv ht
    have hE := fun w' (hb : Below w.heap.size w w') => ent3 (rv.ext hb) hjy
    have HE := Lib.hid hE
    have Rv := Lib.hid rv
    have c00 := fun w' (hb : Below w.heap.size w w') => (hb.cell (p := ⟨g, 0, none⟩) hgl).trans c0
    have C00 := Lib.hid c00
    clear hE rv c0 c00
    have Hyv : Hid (OwnB w 0 5 (ys[j]).v (ys[j]).data → True) := fun _ => trivial
    generalize ys[j] = y at *
    have hdat' : Bytes w (.slice y.p y.data.length y.c) y.data := hdat
    clear hdat hmem Hyv
    go_enter Tryd.func25, Tryd.ntmps25
    go_wp2_with fail
    refine hfind.mono ?_
    rintro e w' ⟨rfl, hb⟩
    obtain ⟨e0, e1, e2⟩ := HE.out w' hb
    have k0 := C00.out w' hb
    have hdb := hdat'.ext hb
    go_wp2_with (first | (at_builtin; refine wpList_app tBytes rfl rfl (Own.nil _ w.heap.size _ _) rfl hdb rfl (by omega) hb.size ?_; intro v4 w4 own4 g4 b4) | fail)
    go_ret2
    exact ⟨_, by rw [Hr.out]; rfl, by rw [Hr.out]; exact OwnB.of own4 (by simp) (by simp), hb.trans b4⟩
theorem dskNew (w : World) : Calls Tryd.prog 7 #[] w fun e w' => e = .returned (.pointer (some ⟨w.heap.size, 0, none⟩)) ∧ DiskAt w' (fun k => w.heap.size ≤ k ∧ k < w'.heap.size) w.heap.size dk0 ∧ Below w.heap.size w w' := by
  have kb := Blk.new w #[.slice none 0 0, .bool false, .bool false, .int .i64 0] 58
  have hz : DiskAt (w.alloc (.cells #[.slice none 0 0, .bool false, .bool false, .int .i64 0] 58)) (fun k => w.heap.size ≤ k ∧ k < (w.alloc (.cells #[.slice none 0 0, .bool false, .bool false, .int .i64 0] 58)).heap.size) w.heap.size dk0 := by
    refine DiskV.at_ (v := .slice none 0 0) (ys := []) ⟨kb, ⟨OwnR.nil _ _ _, by simp, by simp, by simp, by simp [Value.ownBlock], by simp⟩, by simp [Value.ownBlock], by simp, ⟨Nat.le_refl _, kb.lt⟩, fun k h => h.2⟩ rfl
  have Hz := Lib.hid hz
  clear hz kb
  go_enter Tryd.func7, Tryd.ntmps7
  go_wp2
  go_ret
  exact ⟨rfl, Hz.out, below_alloc _ _⟩
end Go.Proofs.YtgpgcnmnfnnkjaaDoor
end

section
namespace Go.Proofs.YtgpgcnmnfnnkjaaDoor
open Go Go.RowKit

theorem run_sl_from {P : Program} {t e : TypeId} {sz bytes : Nat} (T : SlT P t e sz bytes) (g n cap : Nat) (k : IntKind) (I : Int) (i : Nat) (hI : I = (i : Int)) (hi : i ≤ n) (hc : n ≤ cap) (hic : i < cap) (w : World) :
    (Instr.slice t (.slice (some ⟨g, 0, none⟩) n cap) (some (.int k I)) none none).run P w = .ok (.slice (some ⟨g, i * sz, none⟩) (n - i) (cap - i)) w := by
  subst hI
  obtain ⟨j, z, hj, hz, hs, hby, hzs⟩ := T.info
  have hne : ¬ cap = i := by omega
  simp [Instr.slice, run_underlying T.under, Instr.sliceBounds, Instr.sliceBound, asIntOf, hi, hne, sizeOf, typeInfo, hj, hs, Addr.add]
  exact fun h => h.symm
theorem run_sl_to {P : Program} {t e : TypeId} {sz bytes : Nat} (T : SlT P t e sz bytes) (g n cap : Nat) (k : IntKind) (J : Int) (j : Nat) (hJ : J = (j : Int)) (hj : j ≤ cap) (hp : 0 < cap) (w : World) :
    (Instr.slice t (.slice (some ⟨g, 0, none⟩) n cap) none (some (.int k J)) none).run P w = .ok (.slice (some ⟨g, 0, none⟩) j cap) w := by
  subst hJ
  obtain ⟨i, z, hi, hz, hs, hby, hzs⟩ := T.info
  simp [Instr.slice, run_underlying T.under, Instr.sliceBounds, Instr.sliceBound, asIntOf, hj, sizeOf, typeInfo, hi, hs, Addr.add]

theorem run_size {P : Program} {t e : TypeId} {sz bytes : Nat} (T : SlT P t e sz bytes) (w : World) : (Go.sizeOf e).run P w = .ok sz w := by
  obtain ⟨i, z, hi, hz, hs, hby, hzs⟩ := T.info
  simp [sizeOf, typeInfo, hi, hs]
/-- the row behind a shift, put together -/
theorem ins_take {α : Type} (E : Enc α) (cur : List Value) (l : List α) (k : Nat) (hk : k ≤ l.length) (htake : cur.take (l.length * E.sz) = E.all l) : cur.take (k * E.sz) = E.all (l.take k) := by
  rw [← E.all_take, ← htake, List.take_take]; congr 1
  have : k * E.sz ≤ l.length * E.sz := Nat.mul_le_mul_right _ hk
  omega
theorem ins_cells {α : Type} (E : Enc α) (cur : List Value) (l : List α) (x : α) (k : Nat) (hk : k ≤ l.length) (h1 : cur.take (k * E.sz) = E.all (l.take k)) :
    (cur.take (k * E.sz) ++ (E.enc x ++ (E.all (l.drop k) ++ cur.drop ((l.length + 1) * E.sz)))).take ((l.length + 1) * E.sz) = E.all (l.take k ++ x :: l.drop k) := by
  have hlen : (E.all (l.take k ++ x :: l.drop k)).length = (l.length + 1) * E.sz := by
    rw [E.all_length]; congr 1; simp; omega
  rw [h1, ← List.append_assoc, ← List.append_assoc, ← hlen]
  rw [show E.all (l.take k) ++ E.enc x ++ E.all (l.drop k) = E.all (l.take k ++ x :: l.drop k) from by rw [E.all_append, E.all_cons, List.append_assoc]]
  rw [List.take_append_of_le_length (Nat.le_refl _), List.take_of_length_le (Nat.le_refl _)]

theorem grown_setRow (w : World) (g : Nat) (cs : Array Value) : w.grownBy (w.setRow g cs) (some g) := ⟨rfl, rfl, rfl, by simp [World.setRow], fun k _ hk => setRow_other w g k cs (fun e => hk (by rw [e]))⟩

end Go.Proofs.YtgpgcnmnfnnkjaaDoor
end
