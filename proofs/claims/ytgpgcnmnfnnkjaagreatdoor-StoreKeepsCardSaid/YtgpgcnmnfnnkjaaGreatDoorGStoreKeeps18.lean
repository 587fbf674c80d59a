/- The walks of disk.torn and (*disk.Disk).Crash. -/
import Derived.Test.YtgpgcnmnfnnkjaaGreatDoorGStoreKeeps17
import Derived.Laws.BitsAllLaws
set_option linter.unusedVariables false
set_option linter.unusedSimpArgs false
section
namespace Go.Proofs.YtgpgcnmnfnnkjaaGreatDoor
open Go Go.RowKit BigFrame Go.PlainAid
attribute [local go_sem] After.same
theorem Blk.grow {w : World} {g : Nat} {cs : Array Value} {t : TypeId} (h : Blk w g cs t) (i : Nat) (v : Value) : w.grownBy (w.setCell ⟨g, i, none⟩ v) (some g) := by
 unfold Blk at h; rw [setCell_eq_setRow w g i cs t (0, 0) v h]; exact grown_setRow w g _
theorem xor255_u8 (x : UInt8) : bits .xor .u8 (x.toNat : Int) 255 = ((x ^^^ 255).toNat : Int) := by
 have h : (255 : Int) = (((255 : UInt8).toNat : Nat) : Int) := rfl
 rw [h, u8_xor_nat _ _ x.toNat_lt (255 : UInt8).toNat_lt, UInt8.toNat_xor]
attribute [local go_sem] xor255_u8
def TornTo (w : World) (pick : Int) (y : Ent) (e : Ending) (w' : World) : Prop :=
 ∃ z : Ent, e = .returned (.agg #[.string z.name, .slice z.p z.data.length z.c, .int .i64 (z.kept : Int)]) ∧ z.fil = tornD pick y.fil ∧ OwnB w' w.heap.size 5 z.v z.data ∧ Below w.heap.size w w'
def tornB (P u k : Nat) (l : List UInt8) : List UInt8 := if 0 < P % (u + 1) ∧ P / (u + 1) % 2 = 1 then flipLast (l.take (k + P % (u + 1))) else l.take (k + P % (u + 1))
theorem tornD_eq {pick : Int} {f : Fil} {u : Nat} (h : f.data.length = f.kept + u) : tornD pick f = ⟨f.name, tornB pick.toNat u f.kept f.data, (tornB pick.toNat u f.kept f.data).length⟩ := by
 unfold tornD tornB
 have e : f.data.length - f.kept = u := by omega
 simp only [e]
theorem flipLast_at {l : List UInt8} {m : Nat} (h : l.length = m + 1) : flipLast l = l.set m (l[m] ^^^ 255) := by
 unfold flipLast
 rw [show l.length - 1 = m from by omega, List.getElem?_eq_getElem (by omega)]
set_option maxRecDepth 8000 in
set_option maxHeartbeats 4000000 in
theorem dskTorn (y : Ent) (pick : Int) (w : World) (hdat : OwnB w 0 5 y.v y.data) (hk : y.kept ≤ y.data.length) (hl : y.data.length ≤ 4194304) (hpk : pick ≤ 9223372036854775807) :
 Calls Tryz.prog 74 #[.agg #[.string y.name, .slice y.p y.data.length y.c, .int .i64 (y.kept : Int)], .int .i64 pick] w (TornTo w pick y) := by
 obtain ⟨u, hu⟩ : ∃ u, y.data.length = y.kept + u := ⟨y.data.length - y.kept, by omega⟩
 have HT := Lib.hid (tornD_eq (pick := pick) (f := y.fil) hu)
 have he5 : (y.data.length : Int) - (y.kept : Int) = (u : Int) := by omega
 have E5 := Lib.hid he5
 have hul : (u : Int) ≤ 4194304 := by omega
 have Hu := Lib.hid hu
 clear hu he5
 have hb1 := below_alloc w (.cells #[.string y.name, .slice y.p y.data.length y.c, .int .i64 (y.kept : Int)] 96)
 have hb2 := below_alloc (w.alloc (.cells #[.string y.name, .slice y.p y.data.length y.c, .int .i64 (y.kept : Int)] 96)) (.cells #[.string ⟨#[]⟩, .slice none 0 0, .int .i64 0] 96)
 have kb := (Blk.new w #[.string y.name, .slice y.p y.data.length y.c, .int .i64 (y.kept : Int)] 96).ext hb2
 have kr := Blk.new (w.alloc (.cells #[.string y.name, .slice y.p y.data.length y.c, .int .i64 (y.kept : Int)] 96)) #[.string ⟨#[]⟩, .slice none 0 0, .int .i64 0] 96
 have hs2 : (w.alloc (.cells #[.string y.name, .slice y.p y.data.length y.c, .int .i64 (y.kept : Int)] 96)).heap.size = w.heap.size + 1 := by simp
 rw [hs2] at kr
 have hbb := hb1.trans (hb2.mono hb1.size)
 clear hb1 hb2 hs2
 have h0P : (0 : Int) ≤ (pick.toNat : Int) := by omega
 obtain ⟨P, hP⟩ : ∃ P, pick.toNat = P := ⟨_, rfl⟩
 rw [hP] at HT h0P
 have HP := Lib.hid hP
 clear hP
 go_enter Tryz.func74, Tryz.ntmps74
 go_upto_region 1 with (fail)
 generalize hw1 : (w.alloc (.cells #[.string y.name, .slice y.p y.data.length y.c, .int .i64 (y.kept : Int)] 96)).alloc (.cells #[.string { data := #[] }, .slice none 0 0, .int .i64 0] 96) = w1 at *
 clear hw1
 have e5 := E5.out
 have b1 := kb.cell 1 _ rfl
 have b2 := kb.cell 2 _ rfl
 go_upto_region 2 with (fail)
 clear b1 b2 e5
 go_cut [1] from 13 (fun q wi => q = .int .i64 (P : Int) ∧ wi = w1)
 case first =>
  by_cases hneg : pick < 0
  · have hq : P = 0 := by rw [← HP.out]; omega
    have Hq := Lib.hid hq
    clear hq
    go_wp2_with fail
    go_meet
    exact ⟨by rw [Hq.out]; rfl, rfl⟩
  · have hq : pick = (P : Int) := by rw [← HP.out]; omega
    have Hq := Lib.hid hq
    clear hq
    go_wp2_with fail
    go_meet
    exact ⟨by rw [Hq.out], rfl⟩
 case rest =>
 obtain ⟨rfl, rfl⟩ := hcut
 have hPm : (P : Int) ≤ 9223372036854775807 := by rw [← HP.out]; omega
 have hu0 : (0 : Int) ≤ (u : Int) := by omega
 generalize wc = w1 at *
 go_upto_region 3 with (fail)
 go_cut [6] from 15 (fun q wi => q = .int .i64 ((P % (u + 1) : Nat) : Int) ∧ wi = w1)
 case first =>
  have e6 : (P : Int) % ((u : Int) + 1) = ((P % (u + 1) : Nat) : Int) := by rw [Int.natCast_emod]; rfl
  have E6 := Lib.hid e6
  clear e6
  go_wp2_with fail
  go_meet
  refine ⟨?_, rfl⟩
  rw [← E6.out]
 case rest =>
 obtain ⟨rfl, rfl⟩ := hcut
 generalize wc = w1 at *
 obtain ⟨st, hst⟩ : ∃ st, P % (u + 1) = st := ⟨_, rfl⟩
 obtain ⟨Q, hQ⟩ : ∃ Q, P / (u + 1) = Q := ⟨_, rfl⟩
 have hstu : st ≤ u := by have h : P % (u + 1) < u + 1 := Nat.mod_lt _ (Nat.succ_pos _); rw [hst] at h; omega
 have hle : y.kept + st ≤ y.data.length := by have := Hu.out; omega
 obtain ⟨L, hL⟩ : ∃ L, y.data.take (y.kept + st) = L := ⟨_, rfl⟩
 have hLl : L.length = y.kept + st := by rw [← hL, List.length_take]; omega
 have hB : tornB P u y.kept y.data = if 0 < st ∧ Q % 2 = 1 then flipLast L else L := by unfold tornB; rw [hst, hQ, hL]
 have HB := Lib.hid hB
 have hQP : (Q : Int) ≤ (P : Int) := by rw [← hQ]; exact Int.ofNat_le.2 (Nat.div_le_self _ _)
 have hQ0 : (0 : Int) ≤ (Q : Int) := by omega
 have hQm : (Q : Int) ≤ 9223372036854775807 := by omega
 have hqe : (P : Int) / ((u : Int) + 1) = (Q : Int) := by rw [← hQ, Int.natCast_ediv]; rfl
 have Hqe := Lib.hid hqe
 rw [hst]
 obtain ⟨yp, yc, hyv, hsub, hown⟩ := cutV (hdat.ext hbb) hle
 rw [hL] at hown
 have hyv2 : Value.slice y.p y.data.length y.c = .slice yp y.data.length yc := hyv
 have hslc : ∀ W, (Instr.slice 26 (.slice yp y.data.length yc) none (some (.int .i64 ((y.kept : Int) + (st : Int)))) none).run Tryz.prog W = .ok (.slice yp (y.kept + st) yc) W := fun W => by
  have h := run_sub_to tU8 (P := Tryz.prog) (hdat.ext hbb).bytes .i64 ((y.kept : Int) + (st : Int)) (y.kept + st) (by omega) hle W
  rw [hsub] at h
  rw [← hyv2]; exact h
 have hbyt : Bytes w1 (.slice yp (y.kept + st) yc) L := hown.bytes
 have hkst : (y.kept : Int) + (st : Int) ≤ 4194304 := by omega
 have hst0 : (0 : Int) ≤ (st : Int) := by omega
 have hk0 : (0 : Int) ≤ (y.kept : Int) := by omega
 rw [hyv2] at kb
 have b1 := kb.cell 1 _ rfl
 have b2 := kb.cell 2 _ rfl
 have hNlt := kb.lt
 have hRlt := kr.lt
 have hLm : L.length ≤ 4194304 := by omega
 have HLl := Lib.hid hLl
 clear hst hQ hL hB hqe hyv hsub hyv2 hown hLl
 go_upto_region 5 with ((at_builtin; refine wpList_app tU8 rfl rfl (Own.nil _ w1.heap.size _ _) rfl hbyt rfl (by omega) (Nat.le_refl _) ?_; intro v6 w6 own6 g6 b6; (replace own6 := OwnB.of (l := L) own6 (by simp) (by simp)); (obtain ⟨p6, c6, hv6⟩ := own6.bytes.shape); (have kb6 := kb.grown g6 (by simp [Value.ownBlock])); (have kr6 := kr.grown g6 (by simp [Value.ownBlock])); (have b61 := kb6.cell 1 _ rfl); (have f61 := kb6.frozen 1); subst hv6))
 have kb7 := kb6.set 1 (.slice p6 L.length c6)
 have gr7 := kb6.grow 1 (.slice p6 L.length c6)
 have kr7 := kr6.grown gr7 (fun e => by have := Option.some.inj e; omega)
 have hpN : (Value.slice p6 L.length c6).ownBlock ≠ some w.heap.size := fun e => by have := (own6.lt _ e).1; omega
 have hpR : (Value.slice p6 L.length c6).ownBlock ≠ some (w.heap.size + 1) := fun e => by have := (own6.lt _ e).1; omega
 have own7 : OwnB (w6.setCell ⟨w.heap.size, 1, none⟩ (.slice p6 L.length c6)) w1.heap.size 5 (.slice p6 L.length c6) L := Own.grown own6 gr7 (.inr hpN)
 have hb7 := (hbb.trans (b6.mono hbb.size)).trans (below_grown gr7 (by have := hbb.size; have := b6.size; omega) (fun k h => by cases h; exact Nat.le_refl _))
 have hdone : OwnB (w6.setCell ⟨w.heap.size, 1, none⟩ (.slice p6 L.length c6)) w1.heap.size 5 (.slice p6 L.length c6) L ∧ True := ⟨own7, trivial⟩
 clear own6 g6 b6 kb6 kr6 b61 f61 gr7 kb kr hbyt hslc b1 b2 hdone
 generalize hw7 : w6.setCell ⟨w.heap.size, 1, none⟩ (.slice p6 L.length c6) = w7 at *
 clear hw7
 simp only [lyA, lyZ, lyS] at kb7
 go_cut [37] from 28 (fun q wi => q = .bool (decide (0 < st ∧ Q % 2 = 1)) ∧ wi = w7)
 case first =>
  by_cases h0 : 0 < st
  · have hi : (0 : Int) < (st : Int) := by omega
    have e8 := Hqe.out
    by_cases hq : Q % 2 = 1
    · have hq2 : (((Q : Int) % 2) == 1) = true := by simp; omega
      have hd := Lib.hid (decide_eq_true (And.intro h0 hq))
      clear hq h0
      go_wp2_with fail
      go_meet
      exact ⟨by rw [hd.out], rfl⟩
    · have hq2 : (((Q : Int) % 2) == 1) = false := by simp; omega
      have hd := Lib.hid (decide_eq_false (fun h : 0 < st ∧ Q % 2 = 1 => hq h.2))
      clear hq h0
      go_wp2_with fail
      go_meet
      exact ⟨by rw [hd.out], rfl⟩
  · have hi : ¬ (0 : Int) < (st : Int) := by omega
    have hd := Lib.hid (decide_eq_false (fun h : 0 < st ∧ Q % 2 = 1 => h0 h.1))
    clear h0
    go_wp2_with fail
    go_meet
    exact ⟨by rw [hd.out], rfl⟩
 case rest =>
 obtain ⟨rfl, rfl⟩ := hcut
 generalize wc = w7 at *
 go_upto_if 37 with (fail)
 go_cut [] from 37 (fun wi => ∃ L', L'.length = L.length ∧ tornB P u y.kept y.data = L' ∧ OwnB wi w1.heap.size 5 (.slice p6 L.length c6) L' ∧ Blk wi w.heap.size #[.string y.name, .slice p6 L.length c6, .int .i64 (y.kept : Int)] 96 ∧ Blk wi (w.heap.size + 1) #[.string ⟨#[]⟩, .slice none 0 0, .int .i64 0] 96 ∧ Below w.heap.size w wi)
 case first =>
  by_cases hc : 0 < st ∧ Q % 2 = 1
  · have hB := HB.out
    rw [if_pos hc] at hB
    rw [decide_eq_true hc]
    obtain ⟨m, hm⟩ : ∃ m, L.length = m + 1 := ⟨L.length - 1, by have := HLl.out; omega⟩
    rw [flipLast_at hm] at hB
    have HB2 := Lib.hid hB
    have hmL : m < L.length := by omega
    obtain ⟨g6, cc, hsh, hg1, hg2, hg3, hg4⟩ := own7.head (by omega)
    simp only [Value.slice.injEq, true_and] at hsh
    obtain ⟨rfl, rfl⟩ := hsh
    have hst8 := own7.stored rfl m (L[m] ^^^ 255)
    have cm := own7.cellAt rfl m hmL
    have fm := own7.frozenAt rfl m
    have hgN : (some g6 : Option Nat) ≠ some w.heap.size := hpN
    have hgR : (some g6 : Option Nat) ≠ some (w.heap.size + 1) := hpR
    have kb8 := kb7.grown hst8.2 hgN
    have kr8 := kr7.grown hst8.2 hgR
    have hb8 := hb7.trans (below_grown hst8.2 hb7.size (fun k h => by cases h; have := hbb.size; omega))
    have b71 := kb7.cell 1 _ rfl
    rw [show (#[Value.string y.name, .slice (some ⟨g6, 0, none⟩) L.length c6, .int .i64 (y.kept : Int)] : Array Value)[1] = .slice (some ⟨g6, 0, none⟩) (m + 1) c6 from by rw [← hm]; rfl] at b71
    have Hall := Lib.hid (And.intro hst8.1 (And.intro kb8 (And.intro kr8 hb8)))
    have Hm := Lib.hid hm
    have hm0 : (0 : Int) ≤ (m : Int) := by omega
    have hmb : (m : Int) ≤ 4194304 := by omega
    generalize L[m] = x at *
    clear hst8 kb8 kr8 hb8 kb7 kr7 own7 hm hB hc hmL hg3
    go_wp2_with fail
    go_meet
    exact ⟨_, List.length_set, HB2.out, Hall.out.1, Hall.out.2.1, Hall.out.2.2.1, Hall.out.2.2.2⟩
  · have hB := HB.out
    rw [if_neg hc] at hB
    rw [decide_eq_false hc]
    have HB2 := Lib.hid hB
    clear hB hc
    go_wp2_with fail
    go_meet
    exact ⟨L, rfl, HB2.out, own7, kb7, kr7, hb7⟩
 case rest =>
 obtain ⟨L', hL', hB, own8, kb8, kr8, hb8⟩ := hcut
 obtain ⟨w8, hw8⟩ : ∃ z, z = wc := ⟨_, rfl⟩
 subst hw8
 have HB2 := Lib.hid hB
 have HL' := Lib.hid hL'
 have b81 := kb8.cell 1 _ rfl
 have b80 := kb8.cell 0 _ rfl
 have b82 := kb8.cell 2 _ rfl
 have f82 := kb8.frozen 2
 have kb9 := kb8.set 2 (.int .i64 (L.length : Int))
 have gb9 := kb8.grow 2 (.int .i64 (L.length : Int))
 have kr9 := kr8.grown gb9 (fun e => by have := Option.some.inj e; omega)
 have own9 : OwnB _ w1.heap.size 5 (.slice p6 L.length c6) L' := Own.grown own8 gb9 (.inr hpN)
 have hb9 := hb8.trans (below_grown gb9 hb8.size (fun k h => by cases h; exact Nat.le_refl _))
 have d0 := kb9.cell 0 _ rfl
 have d1 := kb9.cell 1 _ rfl
 have d2 := kb9.cell 2 _ rfl
 have r0 := kr9.cell 0 _ rfl
 have r1 := kr9.cell 1 _ rfl
 have r2 := kr9.cell 2 _ rfl
 have s0 := kr9.frozen 0
 have s1 := kr9.frozen 1
 have s2 := kr9.frozen 2
 have kf := ((kr9.set 0 (.string y.name)).set 1 (.slice p6 L.length c6)).set 2 (.int .i64 (L.length : Int))
 have gf := grown_tr (grown_tr (kr9.grow 0 (.string y.name)) ((kr9.set 0 (.string y.name)).grow 1 (.slice p6 L.length c6))) (((kr9.set 0 (.string y.name)).set 1 (.slice p6 L.length c6)).grow 2 (.int .i64 (L.length : Int)))
 have ownf : OwnB _ w1.heap.size 5 (.slice p6 L.length c6) L' := Own.grown own9 gf (.inr hpR)
 have hbf := hb9.trans (below_grown gf (by have := hb9.size; omega) (fun k h => by cases h; exact Nat.le_succ _))
 have y0 := kf.cell 0 _ rfl
 have y1 := kf.cell 1 _ rfl
 have y2 := kf.cell 2 _ rfl
 have Hend := Lib.hid (And.intro ownf hbf)
 have hws := hbb.size
 clear hB hL' own8 own9 ownf hbf kb9 gb9 kr9 gf kf hb8 hb9 own7 kb7 kr7 hb7
 go_wp2_with fail
 refine bodyPost_ret (v := .agg #[.string y.name, .slice p6 L.length c6, .int .i64 (L.length : Int)]) (by simp [results, Tryz.results74, go_sem, y0, y1, y2]) rfl ?_
 refine ⟨⟨y.name, p6, c6, L', L'.length⟩, by rw [HL'.out], ?_, ?_, Hend.out.2⟩
 · rw [HT.out]; show (⟨_, _, _⟩ : Fil) = ⟨_, _, _⟩; rw [show (y.fil).kept = y.kept from rfl, show (y.fil).data = y.data from rfl, HB2.out]; rfl
 · have h := Own.base Hend.out.1 hws
   unfold Ent.v
   rw [HL'.out]; exact h
end Go.Proofs.YtgpgcnmnfnnkjaaGreatDoor
end
