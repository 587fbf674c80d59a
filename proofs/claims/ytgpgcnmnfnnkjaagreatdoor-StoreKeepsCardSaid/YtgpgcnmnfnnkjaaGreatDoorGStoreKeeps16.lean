/- Walks: Sync, Cut, Remove. -/
import Derived.Test.YtgpgcnmnfnnkjaaGreatDoorGStoreKeeps15
set_option linter.unusedVariables false
set_option linter.unusedSimpArgs false
section
namespace Go.Proofs.YtgpgcnmnfnnkjaaGreatDoor
open Go Go.RowKit BigFrame Go.PlainAid
attribute [local go_sem] After.same
theorem knownD_spec (d : Dk) (s : ByteArray) : ((knownD d s).2 ≠ 0 ∧ (knownD d s).1 = 0) ∨ ∃ j, ∃ _ : j < d.fs.length, knownD d s = ((j : Int), 0) ∧ idxD d.fs s = (j : Int) := by
 unfold knownD
 by_cases h : d.off = true
 · rw [if_pos h]; exact .inl ⟨by decide, rfl⟩
 · rw [if_neg h]
   rcases idxD_spec d.fs s with ⟨h1, _⟩ | ⟨j, hj, h1, _⟩
   · rw [if_pos (by omega)]; exact .inl ⟨by decide, rfl⟩
   · rw [if_neg (by omega), h1]; exact .inr ⟨j, hj, rfl, rfl⟩
theorem onD_no {d : Dk} {s : ByteArray} {f : List Fil → Nat → List Fil} (h : (knownD d s).2 ≠ 0) : onD d s f = ((knownD d s).2, d) := if_pos h
theorem onD_yes {d : Dk} {s : ByteArray} {f : List Fil → Nat → List Fil} {j : Nat} (h : knownD d s = ((j : Int), 0)) (hx : idxD d.fs s = (j : Int)) : onD d s f = stepD d fun l => f l j := by
 unfold onD; rw [h, hx]; exact if_neg (fun h => h rfl)
theorem stepD_no {d : Dk} {f : List Fil → List Fil} (h : (powD d).1 = false) : stepD d f = (18, (powD d).2) := by unfold stepD; rw [h]; rfl
theorem stepD_yes {d : Dk} {f : List Fil → List Fil} (h : (powD d).1 = true) : stepD d f = (0, { (powD d).2 with fs := f d.fs }) := by unfold stepD; rw [h]; rfl
theorem cutV {w : World} {B : Nat} {e : TypeId} {n : Nat} {v : Value} {l : List UInt8} (h : OwnB w B e v l) (hn : n ≤ l.length) : ∃ p c, v = .slice p l.length c ∧ subV v 0 n 1 = .slice p n c ∧ OwnB w B e (.slice p n c) (l.take n) := by
 have hl : (l.take n).length = n := by rw [List.length_take]; omega
 rcases Own.head h with ⟨rfl, h0⟩ | ⟨g, cap, rfl, _⟩
 · have hz : l = [] := List.length_eq_zero_iff.1 h0
   subst hz
   have : n = 0 := by simpa using hn
   subst this
   exact ⟨none, 0, rfl, rfl, OwnB.nil _ _ _⟩
 · refine ⟨some ⟨g, 0, none⟩, cap, rfl, ?_, ?_⟩
   · show Value.slice (subP _ _ _ _) _ _ = _
     have e1 : subP (some ⟨g, 0, none⟩) cap 0 1 = some ⟨g, 0, none⟩ := by
      unfold subP; split
      · rfl
      · simp [addr_add]
     rw [e1]; rfl
   · have h1 := Own.cut h n hn
     refine OwnB.of h1 hl.symm ?_
     rw [Nat.mul_one, List.map_take]
theorem del_sub {α : Type} (l : List α) (k : Nat) : (l.take k ++ l.drop (k + 1)).Sublist l := by
 rw [← List.eraseIdx_eq_take_drop_succ]; exact List.eraseIdx_sublist _ _
theorem DiskV.atFs {F : Nat → Prop} {w : World} {g : Nat} {v : Value} {ys : List Ent} {d : Dk} {l : List Fil} (h : DiskV w F g v (.bool d.off) (.bool (decide (0 ≤ d.left))) (.int .i64 (max d.left 0)) ys) (hy : ys.map Ent.fil = l) : DiskAt w F g { d with fs := l } := DiskV.at_ (d := { d with fs := l }) h hy
set_option maxRecDepth 8000 in
set_option maxHeartbeats 4000000 in
theorem dskSync {F : Nat → Prop} {g : Nat} {d : Dk} {w : World} (hd : DiskAt w F g d) (ok : OkD d) (hfs : d.fs.length ≤ 1000000) (s : ByteArray) :
 Calls Tryz.prog 101 #[.pointer (some ⟨g, 0, none⟩), .string s] w fun e w' => e = .returned (.int .i64 (syncD d s).1) ∧ Und w F g (syncD d s).2 w' := by
 have hlt := hd.lt
 have hT := ok.tot
 have Hd := Lib.hid hd
 have hkn := dskKnown F g d s w hd
 rcases knownD_spec d s with ⟨hk, hk0⟩ | ⟨j, hj, hkj, hix⟩
 · have hr : syncD d s = ((knownD d s).2, d) := onD_no hk
   rw [hr, hk0] at *
   generalize (knownD d s).2 = E at *
   have hE : (E == 0) = false := by simpa using hk
   have hE2 : (E != 0) = true := by simpa using hk
   clear hk hk0 hr
   go_enter Tryz.func101, Tryz.ntmps101
   go_wp2_with fail
   refine hkn.mono ?_
   rintro e w1 ⟨rfl, hb⟩
   have und1 := (Und.start Hd.out).ext hlt hb
   go_wp2_with fail
   go_ret
   exact ⟨rfl, und1⟩
 · have hr : syncD d s = stepD d fun l => updD l j fun f => ⟨f.name, f.data, f.data.length⟩ := onD_yes hkj hix
   have HR : Hid (((powD d).1 = false → syncD d s = (18, (powD d).2)) ∧ ((powD d).1 = true → syncD d s = (0, { (powD d).2 with fs := updD d.fs j fun f => ⟨f.name, f.data, f.data.length⟩ }))) := ⟨fun h => by rw [hr]; exact stepD_no h, fun h => by rw [hr]; exact stepD_yes h⟩
   rw [hkj] at hkn
   have Hpf := Lib.hid (powD_fs d)
   clear hr hix hkj
   go_enter Tryz.func101, Tryz.ntmps101
   go_wp2_with fail
   refine hkn.mono ?_
   rintro e w1 ⟨rfl, hb⟩
   have hd1 := Hd.out.ext hb
   have hpow := dskPowerAt hd1 ok
   rw [powE_eq] at hpow
   go_wp2_with fail
   refine hpow.mono ?_
   rintro e w2 ⟨rfl, hd2, ch2⟩
   have chA : Chg F w w2 := (Chg.of_below hb).step ch2
   have undB : Und w F g (powD d).2 w2 := ⟨hd2.mono (fun _ => .inl) (FF_lt hlt (by have := hb.size; have := ch2.size; omega)), chA⟩
   clear hpow hd1 hd2 ch2 chA hb hkn
   cases hpw : (powD d).1 with
   | false =>
    have hs := HR.out.1 hpw
    have Hs := Lib.hid hs
    clear hs hpw
    simp only [Bool.false_eq_true, if_false]
    go_wp2_with fail
    go_ret
    exact ⟨by rw [Hs.out]; rfl, by rw [Hs.out]; exact undB⟩
   | true =>
    have hs := HR.out.2 hpw
    have Hs := Lib.hid hs
    clear hs hpw
    simp only [if_true]
    generalize hd1e : (powD d).2 = d1 at *
    clear hd1e
    obtain ⟨v2, ys2, hv2, hy2⟩ := undB.1.open_
    have hyd : ys2.map Ent.fil = d.fs := by rw [hy2, Hpf.out]
    have Hyd := Lib.hid hyd
    have hjy : j < ys2.length := by rw [DiskV.len_eq hyd]; exact hj
    have hys : ys2.length ≤ 1000000 := by rw [DiskV.len_eq hyd]; exact hfs
    obtain ⟨gv, cap, rfl, _, _, hq1, hq2⟩ := hv2.fil.row.head (by omega)
    unfold maxLen at hq2
    have k0 := hv2.blk.cell 0 _ rfl
    have z0 := hv2.blk.frozen 0
    have hji : (j : Int) < (ys2.length : Int) := by omega
    have hj0 : (0 : Int) ≤ (j : Int) := by omega
    clear hy2 hyd
    have hmem : ys2[j] ∈ ys2 := List.getElem_mem hjy
    have hdat := hv2.fil.data _ hmem
    have hdl : (ys2[j]).data.length ≤ 4194304 := by
     have h1 := totD_mem (l := d.fs) (f := (ys2[j]).fil) (by rw [← Hyd.out]; exact List.mem_map.2 ⟨_, hmem, rfl⟩)
     have h2 : (ys2[j]).fil.data.length = (ys2[j]).data.length := rfl
     omega
    have c21 : w2.cell? ⟨gv, j * 3 + 1, none⟩ = some (.slice ys2[j].p ys2[j].data.length ys2[j].c) := hv2.fil.row.cellAt rfl j hjy 1 (by decide)
    have c22 : w2.cell? ⟨gv, j * 3 + 2, none⟩ = some (.int .i64 ((ys2[j]).kept : Int)) := hv2.fil.row.cellAt rfl j hjy 2 (by decide)
    have f21 := hv2.fil.row.frozenAt rfl (j * 3 + 1)
    have f22 := hv2.fil.row.frozenAt rfl (j * 3 + 2)
    obtain ⟨y, hy⟩ : ∃ y, ys2[j] = y := ⟨_, rfl⟩
    have Hy := Lib.hid hy
    have hfj : Hid (∀ h : j < d.fs.length, d.fs[j] = y.fil) := fun h => by rw [← hy]; simp only [← Hyd.out, List.getElem_map]
    rw [hy] at hdat hdl c21 c22
    have hst := hv2.fil.row.drew.stored rfl j hjy 2 (by decide) (.int .i64 (y.data.length : Int)) rfl ⟨y.name, y.p, y.c, y.data, y.data.length⟩ (by rw [hy]; rfl)
    have hset := hv2.drew.setEnt hjy (y := ⟨y.name, y.p, y.c, y.data, y.data.length⟩) (Chg.refl _ _) (by exact hdat) (.inl (by rw [hy]; rfl)) hst.1 hst.2
    have hfin := DiskV.seqU hset hlt undB.2.drew
    have hres : (ys2.set j ⟨y.name, y.p, y.c, y.data, y.data.length⟩).map Ent.fil = updD d.fs j fun f => ⟨f.name, f.data, f.data.length⟩ := by
     rw [map_set_fil, Hyd.out, updD_at hj, hfj.out hj]; rfl
    have hu : ∀ W, DiskAt W (FF F w W) g _ ∧ Chg F w W → Und w F g (syncD d s).2 W := fun W h => by rw [Hs.out]; exact h
    have Hfin := Lib.hid (hu _ ⟨hfin.1.atFs hres, hfin.2⟩)
    clear hu
    clear hset hst hfin hres hmem hdat hy hv2 undB
    go_wp2_with fail
    go_still_tail 16, (by kernel_rfl)
    change wpList _ _ _ _ _ w2.drew
    go_wp2_with fail
    go_ret
    exact ⟨by rw [Hs.out]; rfl, Hfin.out⟩
set_option maxRecDepth 8000 in
set_option maxHeartbeats 4000000 in
theorem dskRemove {F : Nat → Prop} {g : Nat} {d : Dk} {w : World} (hd : DiskAt w F g d) (ok : OkD d) (hfs : d.fs.length ≤ 1000000) (s : ByteArray) :
 Calls Tryz.prog 79 #[.pointer (some ⟨g, 0, none⟩), .string s] w fun e w' => e = .returned (.int .i64 (removeD d s).1) ∧ Und w F g (removeD d s).2 w' := by
 have hlt := hd.lt
 have hT := ok.tot
 have Hd := Lib.hid hd
 have hkn := dskKnown F g d s w hd
 rcases knownD_spec d s with ⟨hk, hk0⟩ | ⟨j, hj, hkj, hix⟩
 · have hr : removeD d s = ((knownD d s).2, d) := onD_no hk
   rw [hr, hk0] at *
   generalize (knownD d s).2 = E at *
   have hE : (E == 0) = false := by simpa using hk
   have hE2 : (E != 0) = true := by simpa using hk
   clear hk hk0 hr
   go_enter Tryz.func79, Tryz.ntmps79
   go_wp2_with fail
   refine hkn.mono ?_
   rintro e w1 ⟨rfl, hb⟩
   have und1 := (Und.start Hd.out).ext hlt hb
   go_wp2_with fail
   go_ret
   exact ⟨rfl, und1⟩
 · have hr : removeD d s = stepD d fun l => delD l j := onD_yes hkj hix
   have HR : Hid (((powD d).1 = false → removeD d s = (18, (powD d).2)) ∧ ((powD d).1 = true → removeD d s = (0, { (powD d).2 with fs := delD d.fs j }))) := ⟨fun h => by rw [hr]; exact stepD_no h, fun h => by rw [hr]; exact stepD_yes h⟩
   rw [hkj] at hkn
   have Hpf := Lib.hid (powD_fs d)
   clear hr hix hkj
   go_enter Tryz.func79, Tryz.ntmps79
   go_wp2_with fail
   refine hkn.mono ?_
   rintro e w1 ⟨rfl, hb⟩
   have hd1 := Hd.out.ext hb
   have hpow := dskPowerAt hd1 ok
   rw [powE_eq] at hpow
   go_wp2_with fail
   refine hpow.mono ?_
   rintro e w2 ⟨rfl, hd2, ch2⟩
   have chA : Chg F w w2 := (Chg.of_below hb).step ch2
   have undB : Und w F g (powD d).2 w2 := ⟨hd2.mono (fun _ => .inl) (FF_lt hlt (by have := hb.size; have := ch2.size; omega)), chA⟩
   clear hpow hd1 hd2 ch2 chA hb hkn
   cases hpw : (powD d).1 with
   | false =>
    have hs := HR.out.1 hpw
    have Hs := Lib.hid hs
    clear hs hpw
    simp only [Bool.false_eq_true, if_false]
    go_wp2_with fail
    go_ret
    exact ⟨by rw [Hs.out]; rfl, by rw [Hs.out]; exact undB⟩
   | true =>
    have hs := HR.out.2 hpw
    have Hs := Lib.hid hs
    clear hs hpw
    simp only [if_true]
    generalize hd1e : (powD d).2 = d1 at *
    clear hd1e
    obtain ⟨v2, ys2, hv2, hy2⟩ := undB.1.open_
    have hyd : ys2.map Ent.fil = d.fs := by rw [hy2, Hpf.out]
    have Hyd := Lib.hid hyd
    have hjy : j < ys2.length := by rw [DiskV.len_eq hyd]; exact hj
    have hys : ys2.length ≤ 1000000 := by rw [DiskV.len_eq hyd]; exact hfs
    obtain ⟨gv, cap, rfl, _, _, hq1, hq2⟩ := hv2.fil.row.head (by omega)
    unfold maxLen at hq2
    have k0 := hv2.blk.cell 0 _ rfl
    have z0 := hv2.blk.frozen 0
    have hji : (j : Int) < (ys2.length : Int) := by omega
    have hj0 : (0 : Int) ≤ (j : Int) := by omega
    clear hy2 hyd
    have hdel := delFil 0 j _ ys2 w2 hv2.fil.row hjy (Nat.zero_le _)
    have hz := hv2.datas.sub (del_sub ys2 j)
    go_wp2_with fail
    refine hdel.mono ?_
    rintro e w3 ⟨v3, rfl, own3, g3, _, hwh⟩
    have hfin := DiskV.seqU (hv2.putRow g3 own3 (.inl hwh) hz) hlt undB.2
    have hres : (ys2.take j ++ ys2.drop (j + 1)).map Ent.fil = delD d.fs j := by
     unfold delD; rw [List.map_append, List.map_take, List.map_drop, Hyd.out]
    have k3 : Blk w3 g _ _ := hv2.blk.grown g3 hv2.vg
    have c30 := k3.cell 0 _ rfl
    have f30 := k3.frozen 0
    have hu : ∀ W, DiskAt W (FF F w W) g _ ∧ Chg F w W → Und w F g (removeD d s).2 W := fun W h => by rw [Hs.out]; exact h
    have Hfin := Lib.hid (hu _ ⟨hfin.1.atFs hres, hfin.2⟩)
    clear hu
    generalize ys2.take j ++ ys2.drop (j + 1) = zs at *
    obtain ⟨p3, c3, rfl⟩ := own3.rd.shape
    clear hfin hres hz hv2 undB k3 own3 g3 hwh hdel
    go_wp2_with fail
    go_ret
    exact ⟨by rw [Hs.out]; rfl, Hfin.out⟩
set_option maxRecDepth 8000 in
set_option maxHeartbeats 4000000 in
theorem dskCut {F : Nat → Prop} {g : Nat} {d : Dk} {w : World} (hd : DiskAt w F g d) (ok : OkD d) (hfs : d.fs.length ≤ 1000000) (s : ByteArray) (n : Int) :
 Calls Tryz.prog 100 #[.pointer (some ⟨g, 0, none⟩), .string s, .int .i64 n] w fun e w' => e = .returned (.int .i64 (cutD d s n).1) ∧ Und w F g (cutD d s n).2 w' := by
 have hlt := hd.lt
 have hT := ok.tot
 have Hd := Lib.hid hd
 have hkn := dskKnown F g d s w hd
 rcases knownD_spec d s with ⟨hk, hk0⟩ | ⟨j, hj, hkj, hix⟩
 · have hr : cutD d s n = ((knownD d s).2, d) := by unfold cutD; rw [if_neg (fun h => hk h.1)]; exact onD_no hk
   rw [hr, hk0] at *
   generalize (knownD d s).2 = E at *
   have hE : (E == 0) = false := by simpa using hk
   have hE2 : (E != 0) = true := by simpa using hk
   clear hk hk0 hr
   go_enter Tryz.func100, Tryz.ntmps100
   go_wp2_with fail
   refine hkn.mono ?_
   rintro e w1 ⟨rfl, hb⟩
   have und1 := (Und.start Hd.out).ext hlt hb
   go_wp2_with fail
   go_ret
   exact ⟨rfl, und1⟩
 · obtain ⟨va, ysa, hva, hya⟩ := hd.open_
   have hjya : j < ysa.length := by rw [DiskV.len_eq hya]; exact hj
   have hysa : ysa.length ≤ 1000000 := by rw [DiskV.len_eq hya]; exact hfs
   obtain ⟨gva, capa, rfl, _, _, hqa1, hqa2⟩ := hva.fil.row.head (by omega)
   unfold maxLen at hqa2
   have hjia : (j : Int) < (ysa.length : Int) := by omega
   have hj0a : (0 : Int) ≤ (j : Int) := by omega
   have hfja : d.fs[j]? = some (ysa[j]).fil := by rw [← hya, List.getElem?_map, List.getElem?_eq_getElem hjya]; rfl
   have hle : ((d.fs[(idxD d.fs s).toNat]?).map fun f => (f.data.length : Int)).getD 0 = ((ysa[j]).data.length : Int) := by rw [hix, Int.toNat_natCast, hfja]; rfl
   have hcut : cutD d s n = if n < 0 ∨ ((ysa[j]).data.length : Int) < n then (1, d) else onD d s fun l k => updD l k fun f => ⟨f.name, f.data.take n.toNat, min f.kept n.toNat⟩ := by
    unfold cutD; rw [hle, hkj]; simp
   have hk0a : ∀ W, Below w.heap.size w W → W.cell? ⟨g, 0, none⟩ = some (.slice (some ⟨gva, 0, none⟩) ysa.length capa) := fun W hW => (hva.ext hW).blk.cell 0 _ rfl
   have hk1a : ∀ W, Below w.heap.size w W → W.cell? ⟨gva, j * 3 + 1, none⟩ = some (.slice ysa[j].p ysa[j].data.length ysa[j].c) := fun W hW => (hva.ext hW).fil.row.cellAt rfl j hjya 1 (by decide)
   have Hk0a := Lib.hid hk0a
   have Hk1a := Lib.hid hk1a
   have Hlen : Hid (∀ h : j < d.fs.length, d.fs[j].data.length = (ysa[j]).data.length) := fun h => by simp only [← hya, List.getElem_map]; rfl
   clear hk0a hk1a hva hya hfja hle
   generalize ysa[j] = ya at *
   have hdla : (0 : Int) ≤ (ya.data.length : Int) := by omega
   rw [hkj] at hkn
   by_cases hn0 : n < 0
   · rw [if_pos (.inl hn0)] at hcut
     have Hcut := Lib.hid hcut
     clear hcut
     go_enter Tryz.func100, Tryz.ntmps100
     go_wp2_with fail
     refine hkn.mono ?_
     rintro e w1 ⟨rfl, hb⟩
     have ka := Hk0a.out w1 hb
     have kb := Hk1a.out w1 hb
     have und1 := (Und.start Hd.out).ext hlt hb
     go_wp2_with fail
     go_ret
     exact ⟨by rw [Hcut.out]; rfl, by rw [Hcut.out]; exact und1⟩
   · by_cases hnl : (ya.data.length : Int) < n
     · rw [if_pos (.inr hnl)] at hcut
       have Hcut := Lib.hid hcut
       clear hcut
       go_enter Tryz.func100, Tryz.ntmps100
       go_wp2_with fail
       refine hkn.mono ?_
       rintro e w1 ⟨rfl, hb⟩
       have ka := Hk0a.out w1 hb
       have kb := Hk1a.out w1 hb
       have und1 := (Und.start Hd.out).ext hlt hb
       go_wp2_with fail
       go_ret
       exact ⟨by rw [Hcut.out]; rfl, by rw [Hcut.out]; exact und1⟩
     · rw [if_neg (fun h => h.elim hn0 hnl)] at hcut
       obtain ⟨m, rfl⟩ : ∃ m : Nat, n = (m : Int) := ⟨n.toNat, by omega⟩
       have hml : m ≤ d.fs[j].data.length := by rw [Hlen.out hj]; omega
       have hr : cutD d s (m : Int) = stepD d fun l => updD l j fun f => ⟨f.name, f.data.take m, min f.kept m⟩ := by rw [hcut]; exact onD_yes hkj hix
       have HR : Hid (((powD d).1 = false → cutD d s (m : Int) = (18, (powD d).2)) ∧ ((powD d).1 = true → cutD d s (m : Int) = (0, { (powD d).2 with fs := updD d.fs j fun f => ⟨f.name, f.data.take m, min f.kept m⟩ }))) := ⟨fun h => by rw [hr]; exact stepD_no h, fun h => by rw [hr]; exact stepD_yes h⟩
       have Hml := Lib.hid hml
       have hm0 : (0 : Int) ≤ (m : Int) := by omega
       clear hn0 hcut hr hix hkj hml
       have Hpf := Lib.hid (powD_fs d)
       go_enter Tryz.func100, Tryz.ntmps100
       go_wp2_with fail
       refine hkn.mono ?_
       rintro e w1 ⟨rfl, hb⟩
       have ka := Hk0a.out w1 hb
       have kb := Hk1a.out w1 hb
       have hd1 := Hd.out.ext hb
       have hpow := dskPowerAt hd1 ok
       rw [powE_eq] at hpow
       go_wp2_with fail
       clear ka kb
       refine hpow.mono ?_
       rintro e w2 ⟨rfl, hd2, ch2⟩
       have chA : Chg F w w2 := (Chg.of_below hb).step ch2
       have undB : Und w F g (powD d).2 w2 := ⟨hd2.mono (fun _ => .inl) (FF_lt hlt (by have := hb.size; have := ch2.size; omega)), chA⟩
       clear hpow hd1 hd2 ch2 chA hb hkn
       cases hpw : (powD d).1 with
       | false =>
        have hs := HR.out.1 hpw
        have Hs := Lib.hid hs
        clear hs hpw
        simp only [Bool.false_eq_true, if_false]
        go_wp2_with fail
        go_ret
        exact ⟨by rw [Hs.out]; rfl, by rw [Hs.out]; exact undB⟩
       | true =>
        have hs := HR.out.2 hpw
        have Hs := Lib.hid hs
        clear hs hpw
        simp only [if_true]
        generalize hd1e : (powD d).2 = d1 at *
        clear hd1e
        obtain ⟨v2, ys2, hv2, hy2⟩ := undB.1.open_
        have hyd : ys2.map Ent.fil = d.fs := by rw [hy2, Hpf.out]
        have Hyd := Lib.hid hyd
        have hjy : j < ys2.length := by rw [DiskV.len_eq hyd]; exact hj
        have hys : ys2.length ≤ 1000000 := by rw [DiskV.len_eq hyd]; exact hfs
        obtain ⟨gv, cap, rfl, _, _, hq1, hq2⟩ := hv2.fil.row.head (by omega)
        unfold maxLen at hq2
        have k0 := hv2.blk.cell 0 _ rfl
        have z0 := hv2.blk.frozen 0
        have hji : (j : Int) < (ys2.length : Int) := by omega
        have hj0 : (0 : Int) ≤ (j : Int) := by omega
        clear hy2 hyd

        have hmem : ys2[j] ∈ ys2 := List.getElem_mem hjy
        have hdat := hv2.fil.data _ hmem
        have hdl : (ys2[j]).data.length ≤ 4194304 := by
         have h1 := totD_mem (l := d.fs) (f := (ys2[j]).fil) (by rw [← Hyd.out]; exact List.mem_map.2 ⟨_, hmem, rfl⟩)
         have h2 : (ys2[j]).fil.data.length = (ys2[j]).data.length := rfl
         omega
        have c21 : w2.cell? ⟨gv, j * 3 + 1, none⟩ = some (.slice ys2[j].p ys2[j].data.length ys2[j].c) := hv2.fil.row.cellAt rfl j hjy 1 (by decide)
        have c22 : w2.cell? ⟨gv, j * 3 + 2, none⟩ = some (.int .i64 ((ys2[j]).kept : Int)) := hv2.fil.row.cellAt rfl j hjy 2 (by decide)
        have f21 := hv2.fil.row.frozenAt rfl (j * 3 + 1)
        have f22 := hv2.fil.row.frozenAt rfl (j * 3 + 2)
        obtain ⟨y, hy⟩ : ∃ y, ys2[j] = y := ⟨_, rfl⟩
        have Hy := Lib.hid hy
        have hfj : Hid (∀ h : j < d.fs.length, d.fs[j] = y.fil) := fun h => by rw [← hy]; simp only [← Hyd.out, List.getElem_map]
        rw [hy] at hdat hdl c21 c22
        have hml : m ≤ y.data.length := by have h1 := Hml.out; rw [hfj.out hj] at h1; exact h1
        obtain ⟨yp, yc, hyv, hsub, hown⟩ := cutV hdat hml
        have hyp : y.p = yp ∧ y.c = yc := by simp only [Ent.v, Value.slice.injEq, true_and] at hyv; exact hyv
        have hslc := fun W => run_sub_to tU8 (P := Tryz.prog) hdat.bytes .i64 (m : Int) m rfl hml W
        have hst1 := hv2.fil.row.stored rfl j hjy 1 (by decide) (.slice yp m yc) rfl ⟨y.name, yp, yc, y.data.take m, y.kept⟩ (by rw [hy]; show [_, _, _] = _; rw [show (⟨y.name, yp, yc, y.data.take m, y.kept⟩ : Ent).data.length = m from (by rw [List.length_take]; omega)]; rfl)
        have hst2 := hst1.1.stored (by simp) j (by simpa using hjy) 2 (by decide) (.int .i64 ((min y.kept m : Nat) : Int)) rfl ⟨y.name, yp, yc, y.data.take m, min y.kept m⟩ (by rw [List.getElem_set_self]; rfl)
        rw [List.set_set] at hst2
        have hset := hv2.setEnt hjy (y := ⟨y.name, yp, yc, y.data.take m, min y.kept m⟩) (Chg.refl _ _) (by have h := hown; unfold Ent.v; rw [List.length_take, Nat.min_eq_left hml]; exact h) (.inl (by rw [hy]; unfold Ent.v; rw [hyp.1]; cases yp <;> rfl)) hst2.1 (grown_tr hst1.2 hst2.2)
        have hfin := DiskV.seqU hset hlt undB.2
        have hres : (ys2.set j ⟨y.name, yp, yc, y.data.take m, min y.kept m⟩).map Ent.fil = updD d.fs j fun f => ⟨f.name, f.data.take m, min f.kept m⟩ := by
         rw [map_set_fil, Hyd.out, updD_at hj, hfj.out hj]; rfl
        have hu : ∀ W, DiskAt W (FF F w W) g _ ∧ Chg F w W → Und w F g (cutD d s (m : Int)).2 W := fun W h => by rw [Hs.out]; exact h
        have Hfin := Lib.hid (hu _ ⟨hfin.1.atFs hres, hfin.2⟩)
        clear hu
        have hyv2 : Value.slice y.p y.data.length y.c = .slice yp y.data.length yc := hyv
        rw [hyv2] at c21
        have hslc2 : ∀ W, (Instr.slice 26 (.slice yp y.data.length yc) none (some (.int .i64 (m : Int))) none).run Tryz.prog W = .ok (.slice yp m yc) W := fun W => by rw [← hyv2]; exact (hslc W).trans (by rw [hsub])
        have hmi : (m : Int) ≤ (y.data.length : Int) := by omega
        clear hset hst1 hst2 hfin hres hmem hdat hy hv2 undB hslc hsub hyv hyv2 hown
        by_cases hmk : m < y.kept
        · have hmn : min y.kept m = m := Nat.min_eq_right (Nat.le_of_lt hmk)
          rw [hmn] at Hfin
          have hmk2 : (m : Int) < (y.kept : Int) := by omega
          clear hmn
          go_wp2_with fail
          go_ret
          exact ⟨by rw [Hs.out]; rfl, Hfin.out⟩
        · have hmn : min y.kept m = y.kept := Nat.min_eq_left (by omega)
          rw [hmn] at Hfin
          have hmk3 : y.kept ≤ m := by omega
          clear hmn
          go_wp2_with fail
          go_ret
          exact ⟨by rw [Hs.out]; rfl, Hfin.out⟩
end Go.Proofs.YtgpgcnmnfnnkjaaGreatDoor
end
