/- Walks of the document's disk: Sync, Remove. -/
import Derived.Test.YtgpgcnmnfnnkjaaGreatDoorGWalOpens17
set_option linter.unusedVariables false
set_option linter.unusedSimpArgs false
section
namespace Go.Proofs.YtgpgcnmnfnnkjaaGreatDoor
open Go Go.RowKit BigFrame Go.PlainAid
attribute [local go_sem] After.same
theorem known_off {d : Dk} {s : ByteArray} (h : d.off = true) : knownD d s = (0, 18) := by unfold knownD; rw [if_pos h]
theorem known_none {d : Dk} {s : ByteArray} (h : d.off = false) (hx : idxD d.fs s = -1) : knownD d s = (0, 11) := by unfold knownD; rw [if_neg (by rw [h]; decide), if_pos (by omega)]
theorem known_at {d : Dk} {s : ByteArray} {j : Nat} (h : d.off = false) (hx : idxD d.fs s = (j : Int)) : knownD d s = ((j : Int), 0) := by unfold knownD; rw [if_neg (by rw [h]; decide), if_neg (by omega), hx]
theorem onD_err {d : Dk} {s : ByteArray} {f : List Fil → Nat → List Fil} {E : Int} (h : knownD d s = (0, E)) (hE : E ≠ 0) : onD d s f = (E, d) := by rw [onD_no (by rw [h]; exact hE), h]
section
variable {F : Nat → Prop} {g : Nat} {d d' : Dk} {w w1 w2 : World}
theorem UndR.back (h : RefAt w2 (FF F w1 w2) g d' ∧ Chg F w1 w2) (c : Chg F w w1) (h0 : ∀ k, F k → k < w.heap.size) : UndR w F g d' w2 :=
 ⟨h.1.mono (fun k hk => by
  rcases hk with hk | hk
  · exact .inl hk
  · exact .inr ⟨by have := c.size; omega, hk.2⟩) (FF_lt h0 (by have := c.size; have := h.2.size; omega)), c.step h.2⟩
theorem UndR.of (h : RefAt w1 F g d') (c : Chg F w w1) (h0 : ∀ k, F k → k < w.heap.size) : UndR w F g d' w1 := UndR.back ⟨h.ff (Nat.le_refl _), Chg.refl _ _⟩ c h0
end
set_option maxRecDepth 8000 in
set_option maxHeartbeats 4000000 in
theorem refSync {F : Nat → Prop} {g : Nat} {d : Dk} {w : World} (hd : RefAt w F g d) (ok : OkD d) (hfs : d.fs.length ≤ 1000000) (s : ByteArray) :
 Calls Tryz.prog 47 #[.pointer (some ⟨g, 0, none⟩), .string s] w fun e w' => e = .returned (.int .i64 (syncD d s).1) ∧ UndR w F g (syncD d s).2 w' := by
 have hlt := hd.lt
 have hT := ok.tot
 have hat := refAt s w hd
 obtain ⟨v0, ys0, hv0, hy0⟩ := id hd
 have c2 := hv0.blk.cell 2 _ rfl
 have Hd := Lib.hid hd
 clear hd hv0 hy0
 cases hoff : d.off with
 | true =>
  rw [hoff] at c2
  generalize idxD d.fs s = x at *
  have hr : syncD d s = (18, d) := onD_err (known_off hoff) (by decide)
  rw [hr]
  clear hr
  go_enter Tryz.func47, Tryz.ntmps47
  go_wp2_with (go_at_call 51; refine hat.mono ?_; rintro e w' ⟨rfl, rfl⟩)
  go_ret
  exact ⟨rfl, UndR.start Hd.out⟩
 | false =>
  rw [hoff] at c2
  rcases idxD_spec d.fs s with ⟨hx, _⟩ | ⟨j, hj, hx, _, _⟩
  · rw [hx] at hat
    have hr : syncD d s = (11, d) := onD_err (known_none hoff hx) (by decide)
    rw [hr]
    clear hr
    go_enter Tryz.func47, Tryz.ntmps47
    go_wp2_with (go_at_call 51; refine hat.mono ?_; rintro e w' ⟨rfl, rfl⟩)
    go_ret
    exact ⟨rfl, UndR.start Hd.out⟩
  · have hr : syncD d s = stepD d fun l => updD l j fun f => ⟨f.name, f.data, f.data.length⟩ := onD_yes (known_at hoff hx) hx
    have HR : Hid (((powD d).1 = false → syncD d s = (18, (powD d).2)) ∧ ((powD d).1 = true → syncD d s = (0, { (powD d).2 with fs := updD d.fs j fun f => ⟨f.name, f.data, f.data.length⟩ }))) := ⟨fun h => by rw [hr]; exact stepD_no h, fun h => by rw [hr]; exact stepD_yes h⟩
    rw [hx] at hat
    have Hpf := Lib.hid (powD_fs d)
    have hpow := refPower Hd.out ok.lo ok.hi
    clear hr hx hoff
    go_enter Tryz.func47, Tryz.ntmps47
    go_wp2_with fail
    refine hat.mono ?_
    rintro e w' ⟨rfl, rfl⟩
    go_wp2_with fail
    refine hpow.mono ?_
    rintro e w2 ⟨rfl, hd2, ch2⟩
    clear hpow
    cases hpw : (powD d).1 with
    | false =>
     have hs := HR.out.1 hpw
     have Hs := Lib.hid hs
     have undB := UndR.of hd2 ch2 hlt
     clear hs hpw hd2 ch2
     go_wp2_with fail
     go_ret
     exact ⟨by rw [Hs.out] <;> rfl, by rw [Hs.out]; exact undB⟩
    | true =>
     have hs := HR.out.2 hpw
     have Hs := Lib.hid hs
     clear hs hpw
     generalize hd1e : (powD d).2 = d1 at *
     clear hd1e
     obtain ⟨v2, ys2, hv2, hy2⟩ := hd2
     have hyd : ys2.map Ent.fil = d.fs := by rw [hy2, Hpf.out]
     have Hyd := Lib.hid hyd
     have hjy : j < ys2.length := by have h := congrArg List.length hyd; rw [List.length_map] at h; omega
     have hys : ys2.length ≤ 1000000 := by have h := congrArg List.length hyd; rw [List.length_map] at h; omega
     obtain ⟨gv, cap, rfl, _, _, hq1, hq2⟩ := hv2.fil.row.head (by omega)
     unfold maxLen at hq2
     have k0 := hv2.blk.cell 0 _ rfl
     have z0 := hv2.blk.frozen 0
     have hji : (j : Int) < (ys2.length : Int) := by omega
     have hj0 : (0 : Int) ≤ (j : Int) := by omega
     clear hy2 hyd
     have hmem : ys2[j] ∈ ys2 := List.getElem_mem hjy
     have hdat := hv2.fil.data _ hmem
     have hdl : (ys2[j]).data.length ≤ 4194304 := by
      have h1 := totD_mem (l := d.fs) (f := (ys2[j]).fil) (by rw [← Hyd.out]; exact List.mem_map.2 ⟨_, hmem, rfl⟩)
      have h2 : (ys2[j]).fil.data.length = (ys2[j]).data.length := rfl
      omega
     have c21 : w2.cell? ⟨gv, j * 3 + 1, none⟩ = some (.slice ys2[j].p ys2[j].data.length ys2[j].c) := hv2.fil.row.cellAt rfl j hjy 1 (by decide)
     have c22 : w2.cell? ⟨gv, j * 3 + 2, none⟩ = some (.int .i64 ((ys2[j]).kept : Int)) := hv2.fil.row.cellAt rfl j hjy 2 (by decide)
     have f21 := hv2.fil.row.frozenAt rfl (j * 3 + 1)
     have f22 := hv2.fil.row.frozenAt rfl (j * 3 + 2)
     obtain ⟨y, hy⟩ : ∃ y, ys2[j] = y := ⟨_, rfl⟩
     have Hy := Lib.hid hy
     have hfj : Hid (∀ h : j < d.fs.length, d.fs[j] = y.fil) := fun h => by rw [← hy]; simp only [← Hyd.out, List.getElem_map]
     rw [hy] at hdat hdl c21 c22
     have hst := hv2.fil.row.drew.stored rfl j hjy 2 (by decide) (.int .i64 (y.data.length : Int)) rfl ⟨y.name, y.p, y.c, y.data, y.data.length⟩ (by rw [hy]; rfl)
     have hset := hv2.drew.setEnt hjy (y := ⟨y.name, y.p, y.c, y.data, y.data.length⟩) (Chg.refl _ _) (by exact hdat) (.inl (by rw [hy]; rfl)) hst.1 hst.2
     have hres : (ys2.set j ⟨y.name, y.p, y.c, y.data, y.data.length⟩).map Ent.fil = updD d.fs j fun f => ⟨f.name, f.data, f.data.length⟩ := by
      rw [map_set_fil, Hyd.out, updD_at hj, hfj.out hj]; rfl
     have hfin := UndR.back ⟨hset.1.atFs hres, hset.2⟩ ch2.drew hlt
     have Hfin := Lib.hid hfin
     clear hset hst hfin hres hmem hdat hy hv2 ch2
     go_wp2_with fail
     go_still_tail 16, (by kernel_rfl)
     change wpList _ _ _ _ _ w2.drew
     go_wp2_with fail
     go_ret
     exact ⟨by rw [Hs.out] <;> rfl, by rw [Hs.out]; exact Hfin.out⟩
set_option maxRecDepth 8000 in
set_option maxHeartbeats 4000000 in
theorem refRemove {F : Nat → Prop} {g : Nat} {d : Dk} {w : World} (hd : RefAt w F g d) (ok : OkD d) (hfs : d.fs.length ≤ 1000000) (s : ByteArray) :
 Calls Tryz.prog 46 #[.pointer (some ⟨g, 0, none⟩), .string s] w fun e w' => e = .returned (.int .i64 (removeD d s).1) ∧ UndR w F g (removeD d s).2 w' := by
 have hlt := hd.lt
 have hT := ok.tot
 have hat := refAt s w hd
 obtain ⟨v0, ys0, hv0, hy0⟩ := id hd
 have c2 := hv0.blk.cell 2 _ rfl
 have Hd := Lib.hid hd
 clear hd hv0 hy0
 cases hoff : d.off with
 | true =>
  rw [hoff] at c2
  generalize idxD d.fs s = x at *
  have hr : removeD d s = (18, d) := onD_err (known_off hoff) (by decide)
  rw [hr]
  clear hr
  go_enter Tryz.func46, Tryz.ntmps46
  go_wp2_with (go_at_call 51; refine hat.mono ?_; rintro e w' ⟨rfl, rfl⟩)
  go_ret
  exact ⟨rfl, UndR.start Hd.out⟩
 | false =>
  rw [hoff] at c2
  rcases idxD_spec d.fs s with ⟨hx, _⟩ | ⟨j, hj, hx, _, _⟩
  · rw [hx] at hat
    have hr : removeD d s = (11, d) := onD_err (known_none hoff hx) (by decide)
    rw [hr]
    clear hr
    go_enter Tryz.func46, Tryz.ntmps46
    go_wp2_with (go_at_call 51; refine hat.mono ?_; rintro e w' ⟨rfl, rfl⟩)
    go_ret
    exact ⟨rfl, UndR.start Hd.out⟩
  · have hr : removeD d s = stepD d fun l => delD l j := onD_yes (known_at hoff hx) hx
    have HR : Hid (((powD d).1 = false → removeD d s = (18, (powD d).2)) ∧ ((powD d).1 = true → removeD d s = (0, { (powD d).2 with fs := delD d.fs j }))) := ⟨fun h => by rw [hr]; exact stepD_no h, fun h => by rw [hr]; exact stepD_yes h⟩
    rw [hx] at hat
    have Hpf := Lib.hid (powD_fs d)
    have hpow := refPower Hd.out ok.lo ok.hi
    clear hr hx hoff
    go_enter Tryz.func46, Tryz.ntmps46
    go_wp2_with fail
    refine hat.mono ?_
    rintro e w' ⟨rfl, rfl⟩
    go_wp2_with fail
    refine hpow.mono ?_
    rintro e w2 ⟨rfl, hd2, ch2⟩
    clear hpow
    cases hpw : (powD d).1 with
    | false =>
     have hs := HR.out.1 hpw
     have Hs := Lib.hid hs
     have undB := UndR.of hd2 ch2 hlt
     clear hs hpw hd2 ch2
     go_wp2_with fail
     go_ret
     exact ⟨by rw [Hs.out] <;> rfl, by rw [Hs.out]; exact undB⟩
    | true =>
     have hs := HR.out.2 hpw
     have Hs := Lib.hid hs
     clear hs hpw
     generalize hd1e : (powD d).2 = d1 at *
     clear hd1e
     obtain ⟨v2, ys2, hv2, hy2⟩ := hd2
     have hyd : ys2.map Ent.fil = d.fs := by rw [hy2, Hpf.out]
     have Hyd := Lib.hid hyd
     have hjy : j < ys2.length := by have h := congrArg List.length hyd; rw [List.length_map] at h; omega
     have hys : ys2.length ≤ 1000000 := by have h := congrArg List.length hyd; rw [List.length_map] at h; omega
     obtain ⟨gv, cap, rfl, _, _, hq1, hq2⟩ := hv2.fil.row.head (by omega)
     unfold maxLen at hq2
     have k0 := hv2.blk.cell 0 _ rfl
     have z0 := hv2.blk.frozen 0
     have hji : (j : Int) < (ys2.length : Int) := by omega
     have hj0 : (0 : Int) ≤ (j : Int) := by omega
     clear hy2 hyd
     have hjl1 : j + 1 ≤ ys2.length := hjy
     have hA := run_sub_to tRef (P := Tryz.prog) hv2.fil.row.rd .i64 (j : Int) j rfl (by omega)
     have hB := run_sub_from tRef (P := Tryz.prog) hv2.fil.row.rd .i64 ((j : Int) + 1) (j + 1) (by omega) hjl1
     have rA := hv2.fil.row.rd.sub 0 j (by omega) (by omega)
     have rB := hv2.fil.row.rd.sub (j + 1) ys2.length hjl1 (Nat.le_refl _)
     rw [show (ys2.drop 0).take (j - 0) = ys2.take j from by simp, show entE.sz = 3 from rfl] at rA
     rw [show (ys2.drop (j + 1)).take (ys2.length - (j + 1)) = ys2.drop (j + 1) from List.take_of_length_le (by simp), show entE.sz = 3 from rfl] at rB
     generalize subV (.slice (some ⟨gv, 0, none⟩) ys2.length cap) 0 j 3 = vA at *
     generalize subV (.slice (some ⟨gv, 0, none⟩) ys2.length cap) (j + 1) ys2.length 3 = vB at *
     have htl : (ys2.take j).length ≤ 1000000 := by rw [List.length_take]; omega
     have hdl : (ys2.drop (j + 1)).length ≤ 1000000 := by rw [List.length_drop]; omega
     have hc1 : Hid ((([] : List Ent).length + (ys2.take j).length) * 48 ≤ 140737488355328) := by show _ ≤ _; simp only [List.length_nil]; omega
     have hc2 : Hid ((([] ++ ys2.take j).length + (ys2.drop (j + 1)).length) * 48 ≤ 140737488355328) := by show _ ≤ _; simp only [List.nil_append]; omega
     have hz := hv2.datas.sub (del_sub ys2 j)
     have hwr : IntKind.wrap .i64 ((j : Int) + 1) = (j : Int) + 1 := by rw [IntKind.wrap_i64]; omega
     have bD := below_drew w2.heap.size w2
     clear htl hdl
     go_wp2_with fail
     refine wp_region_F (n := 19) (S := fun w' => w'.cell? ⟨g, 0, none⟩ = some (.slice (some ⟨gv, 0, none⟩) ys2.length cap)) (by kernel_rfl) ?_
     have hHeld : (fun w' : World => w'.cell? ⟨g, 0, none⟩ = some (.slice (some ⟨gv, 0, none⟩) ys2.length cap)) w2.drew := k0
     refine wpAnyF_tk 0 _ _ _ (v := ?_) rfl (by kernel_rfl) (fun _ _ _ h => h) ?_ hHeld ?_
     rotate_left
     · intro w hSw
       try dsimp only at hSw
       dsimp only [bare]
       go_simp <;> with_reducible rfl
     try simp only [bare, Act.put, lyA, lyZ, lyS]
     refine wpAnyF_tk 2 _ _ _ (v := ?_) rfl (by kernel_rfl) (fun _ _ _ h => h) ?_ hHeld ?_
     rotate_left
     · intro w hSw
       try dsimp only at hSw
       dsimp only [bare]
       go_simp <;> with_reducible rfl
     try simp only [bare, Act.put, lyA, lyZ, lyS]
     refine wpAnyF_tk 3 _ _ _ (v := ?_) rfl (by kernel_rfl) (fun _ _ _ h => h) ?_ hHeld ?_
     rotate_left
     · intro w hSw
       try dsimp only at hSw
       dsimp only [bare]
       go_simp <;> with_reducible rfl
     try simp only [bare, Act.put, lyA, lyZ, lyS]
     refine wpAnyF_tk 4 _ _ _ (v := ?_) rfl (by kernel_rfl) (fun _ _ _ h => h) ?_ hHeld ?_
     rotate_left
     · intro w hSw
       try dsimp only at hSw
       dsimp only [bare]
       go_simp <;> with_reducible rfl
     try simp only [bare, Act.put, lyA, lyZ, lyS]
     refine wpAnyF_tk 5 _ _ _ (v := ?_) rfl (by kernel_rfl) (fun _ _ _ h => h) ?_ hHeld ?_
     rotate_left
     · intro w hSw
       try dsimp only at hSw
       dsimp only [bare]
       go_simp <;> with_reducible rfl
     try simp only [bare, Act.put, lyA, lyZ, lyS]
     refine wpAnyF_tk 6 _ _ _ (v := ?_) rfl (by kernel_rfl) (fun _ _ _ h => h) ?_ hHeld ?_
     rotate_left
     · intro w hSw
       try dsimp only at hSw
       dsimp only [bare]
       go_simp <;> with_reducible rfl
     try simp only [bare, Act.put, lyA, lyZ, lyS]
     refine wpAnyF_tk 7 _ _ _ (v := ?_) rfl (by kernel_rfl) (fun _ _ _ h => h) ?_ hHeld ?_
     rotate_left
     · intro w hSw
       try dsimp only at hSw
       dsimp only [bare]
       go_simp <;> with_reducible rfl
     try simp only [bare, Act.put, lyA, lyZ, lyS]
     refine wpAnyF_tk 9 _ _ _ (v := ?_) rfl (by kernel_rfl) (fun _ _ _ h => h) ?_ hHeld ?_
     rotate_left
     · intro w hSw
       try dsimp only at hSw
       dsimp only [bare]
       go_simp <;> with_reducible rfl
     try simp only [bare, Act.put, lyA, lyZ, lyS]
     refine wpAnyF_tk 10 _ _ _ (v := ?_) rfl (by kernel_rfl) (fun _ _ _ h => h) ?_ hHeld ?_
     rotate_left
     · intro w hSw
       try dsimp only at hSw
       dsimp only [bare]
       go_simp <;> with_reducible rfl
     try simp only [bare, Act.put, lyA, lyZ, lyS]
     refine wpAnyF_tk 11 _ _ _ (v := ?_) rfl (by kernel_rfl) (fun _ _ _ h => h) ?_ hHeld ?_
     rotate_left
     · intro w hSw
       try dsimp only at hSw
       dsimp only [bare]
       go_simp <;> with_reducible rfl
     try simp only [bare, Act.put, lyA, lyZ, lyS]
     refine wpAnyF_tk 12 _ _ _ (v := ?_) rfl (by kernel_rfl) (fun _ _ _ h => h) ?_ hHeld ?_
     rotate_left
     · intro w hSw
       try dsimp only at hSw
       dsimp only [bare]
       go_simp <;> with_reducible rfl
     try simp only [bare, Act.put, lyA, lyZ, lyS]
     refine wpAnyF_tk 13 _ _ _ (v := ?_) rfl (by kernel_rfl) (fun _ _ _ h => h) ?_ hHeld ?_
     rotate_left
     · intro w hSw
       try dsimp only at hSw
       dsimp only [bare]
       go_simp <;> with_reducible rfl
     try simp only [bare, Act.put, lyA, lyZ, lyS]
     refine wpAnyF_tk 14 _ _ _ (v := ?_) rfl (by kernel_rfl) (fun _ _ _ h => h) ?_ hHeld ?_
     rotate_left
     · intro w hSw
       try dsimp only at hSw
       dsimp only [bare]
       go_simp <;> with_reducible rfl
     try simp only [bare, Act.put, lyA, lyZ, lyS]
     refine wpAnyF_tk 15 _ _ _ (v := ?_) rfl (by kernel_rfl) (fun _ _ _ h => h) ?_ hHeld ?_
     rotate_left
     · intro w hSw
       try dsimp only at hSw
       dsimp only [bare]
       go_simp <;> with_reducible rfl
     try simp only [bare, Act.put, lyA, lyZ, lyS]
     refine wpAnyF_one 1 (some 22) (Op.buildSlice 75 0 #[]) 75 rfl (by kernel_rfl) (fun K hK => ?_)
     have ownE := OwnR.litAt entE w2.drew #[] 87 [] 0 w2.heap.size w2.drew.heap.size rfl rfl rfl (Nat.zero_le _) bD.size
     have bE := bD.trans ((below_alloc w2.drew (.cells #[] 87)).mono bD.size)
     dsimp only [bare]; go_simp
     refine hK _ _ ((hv2.ext bE).blk.cell 0 _ rfl) (fun hHeld => ?_)
     clear hK K
     try simp only [bare, Act.put, lyA, lyZ, lyS]
     refine wpAnyF_one 8 (some 29) (Op.call { callee := Callee.builtin Builtin.append, args := #[Operand.tmp 22, Operand.tmp 28], argTypes := #[75, 75] }) 75 rfl (by kernel_rfl) (fun K hK => ?_)
     refine step_appR (E := entE) (s := .tmp 22) (y := .tmp 28) (B := w2.heap.size) (l := []) (m := ys2.take j) tRef rfl rfl ownE (by simp [Act.eval, Act.put]) (rA.ext bE) (by simp [Act.eval, Act.put]) hc1.out bE.size ?_
     intro v8 w8 own8 g8 b8
     have bF := bE.trans b8
     refine hK _ _ ((hv2.ext bF).blk.cell 0 _ rfl) (fun hHeld => ?_)
     clear hK K
     try simp only [bare, Act.put, lyA, lyZ, lyS]
     refine wpAnyF_one 16 (some 37) (Op.call { callee := Callee.builtin Builtin.append, args := #[Operand.tmp 29, Operand.tmp 36], argTypes := #[75, 75] }) 75 rfl (by kernel_rfl) (fun K hK => ?_)
     refine step_appR (E := entE) (s := .tmp 29) (y := .tmp 36) (B := w2.heap.size) (l := [] ++ ys2.take j) (m := ys2.drop (j + 1)) tRef rfl rfl own8 (by simp [Act.eval, Act.put]) (rB.ext bF) (by simp [Act.eval, Act.put]) hc2.out bF.size ?_
     intro v9 w9 own9 g9 b9
     have bG := bF.trans b9
     refine hK _ _ ((hv2.ext bG).blk.cell 0 _ rfl) (fun hHeld => ?_)
     clear hK K
     try simp only [bare, Act.put, lyA, lyZ, lyS]
     refine wpAnyF_tk 17 _ _ _ (v := ?_) rfl (by kernel_rfl) (fun _ _ _ h => h) ?_ hHeld ?_
     rotate_left
     · intro w hSw
       try dsimp only at hSw
       dsimp only [bare]
       go_simp <;> with_reducible rfl
     try simp only [bare, Act.put, lyA, lyZ, lyS]
     refine wpAnyF_tk 18 _ _ _ (v := ?_) rfl (by kernel_rfl) (fun _ _ _ h => h) ?_ hHeld ?_
     rotate_left
     · intro w hSw
       try dsimp only at hSw
       dsimp only [bare]
       go_simp <;> with_reducible rfl
     try simp only [bare, Act.put, lyA, lyZ, lyS]
     have fz := (hv2.ext bG).blk.frozen 0
     have own12 : OwnR entE w9 w2.heap.size 87 v9 (ys2.take j ++ ys2.drop (j + 1)) := by have h := own9; rw [List.nil_append] at h; exact h
     have hres := hv2.putRow (grown_below bG) (Own.base own12 (Nat.zero_le _)) (.inr (fun n hn => (OwnR.lt own12 n hn).1)) hz
     have hmap : (ys2.take j ++ ys2.drop (j + 1)).map Ent.fil = delD d.fs j := by
      unfold delD; rw [List.map_append, List.map_take, List.map_drop, Hyd.out]
     have hfin := UndR.back ⟨hres.1.atFs hmap, hres.2⟩ ch2 hlt
     have r12 := own12.rd
     clear hres own9 own12 hmap hz
     generalize ys2.take j ++ ys2.drop (j + 1) = L at *
     obtain ⟨p9, c9, rfl⟩ := r12.shape
     have Hfin := Lib.hid hfin
     clear hfin r12
     refine wpAnyF_end (none) (Op.store 75 (Operand.tmp 39) (Operand.tmp 37)) 0 rfl (by kernel_rfl) (by kernel_rfl) (fun K hK => ?_)
     dsimp only [bare]; go_simp
     refine hK _ _ ?_
     clear hK K
     try simp only [bare, Act.put, lyA, lyZ, lyS]
     go_wp2_with fail
     go_ret
     exact ⟨by rw [Hs.out] <;> rfl, by rw [Hs.out]; exact Hfin.out⟩
end Go.Proofs.YtgpgcnmnfnnkjaaGreatDoor
end
