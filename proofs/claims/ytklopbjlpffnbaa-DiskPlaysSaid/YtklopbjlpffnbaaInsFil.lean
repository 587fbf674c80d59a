/- The walk of slices.Insert at disk.file: a slice of the call's own, one element. -/
import Derived.Test.YtklopbjlpffnbaaDskP
import Derived.Test.YtklopbjlpffnbaaIns0
namespace Go.Proofs.Ytklopbjlpffnbaa
open Go Go.RowKit

set_option maxHeartbeats 2000000 in
theorem insFil_end (B : Nat) (v : Value) (l : List Ent) (x : Ent) (w : World) (own : OwnR entE w B 64 v l) (vx : Value) (hx : Rd entE w vx [x])
    (hbytes : (l.length + 1) * 48 ≤ 140737488355328) (hB : B ≤ w.heap.size) :
    Calls Try.prog 49 #[v, .int .i64 (l.length : Int), vx] w fun e w' =>
      ∃ v', e = .returned v' ∧ OwnR entE w' B 64 v' (l ++ [x]) ∧ w.grownBy w' v.ownBlock ∧ Below B w w' ∧ (v'.ownBlock = v.ownBlock ∨ v'.ownBlock = some w.heap.size) := by
  have hs := run_sub_from tFil (P := Try.prog) own.rd .i64 (l.length : Int) l.length rfl (Nat.le_refl _)
  obtain ⟨px, cx, rfl⟩ := hx.shapeN (n := 1) rfl
  obtain ⟨p, cap, rfl⟩ := own.rd.shape
  go_enter Try.func49, Try.ntmps49
  go_wp2_with (first
    | (at_builtin; refine wpList_appW tFil rfl rfl own rfl hx rfl (by simpa using hbytes) hB ?_; intro v6 w6 own6 g6 b6 h6)
    | fail)
  go_ret
  exact ⟨v6, rfl, OwnR.of own6 (by simp) (by rw [entE.all_append]), g6, b6, h6⟩

set_option maxHeartbeats 4000000 in
set_option maxRecDepth 100000 in
theorem insFil_shift (B g cap vb k : Nat) (l : List Ent) (x : Ent) (w : World) (cur : Array Value) (hg : w.heap[g]? = some (.cells cur 64 (0, 0))) (hcur : cur.size = cap * 3) (htake : cur.toList.take (l.length * 3) = entE.all l)
    (hvb : w.heap[vb]? = some (.cells (entE.enc x).toArray 64 (0, 0))) (hne : vb ≠ g) (hk : k < l.length) (hroom : l.length + 1 ≤ cap) (hmax : cap ≤ maxLen) (hB : B ≤ g) :
    Calls Try.prog 49 #[.slice (some ⟨g, 0, none⟩) l.length cap, .int .i64 (k : Int), .slice (some ⟨vb, 0, none⟩) 1 1] w fun e w' =>
      ∃ v', e = .returned v' ∧ OwnR entE w' B 64 v' (l.take k ++ x :: l.drop k) ∧ w.grownBy w' (some g) ∧ v'.ownBlock = some g := by
  unfold maxLen at hmax
  have hs1 := run_sl_from tFil (P := Try.prog) g l.length cap .i64 (k : Int) k rfl (by omega) (by omega) (by omega)
  have hs2 := run_sl_to tFil (P := Try.prog) g l.length cap .i64 ((l.length : Int) + 1) (l.length + 1) (by omega) hroom (by omega)
  have hs3 := run_sl_from tFil (P := Try.prog) g (l.length + 1) cap .i64 ((k : Int) + 1) (k + 1) (by omega) (by omega) hroom (by omega)
  rw [show l.length + 1 - (k + 1) = l.length - k from by omega] at hs3
  have hov : ∀ lb cb, (callFunc 54 #[.slice (some ⟨vb, 0, none⟩) 1 1, .slice (some ⟨g, (k + 1) * 3, none⟩) lb cb]).run Try.prog w = .ok (.value (.bool false)) w := fun lb cb => by
    rw [run_callFunc_extern Try.func54 (by kernel_rfl) (by kernel_rfl) (by kernel_rfl) (e := Extern.SlicesOverlaps.overlaps #[56, 56] #[4]) (by kernel_rfl),
      Lib.run_overlaps_apart w 56 4 64 Try.underlying56 3 (run_size tFil) ⟨vb, 0, none⟩ ⟨g, (k + 1) * 3, none⟩ 1 1 lb cb hne _ _ _ _ (by simp [World.shape?, hvb]; exact ⟨rfl, rfl⟩) (by simp [World.shape?, hg]; exact ⟨rfl, rfl⟩) (by rw [hcur]; omega) (by simp [World.frozen?, hvb]) (by simp [World.frozen?, hvb])]
    rfl
  have hs4 := run_sl_from tFil (P := Try.prog) g (l.length + 1) cap .i64 (k : Int) k rfl (by omega) hroom (by omega)
  have hz2 : ¬ ((k : Int) = (l.length : Int)) := by omega
  have hr : ¬ ((cap : Int) < (l.length : Int) + 1) := by omega
  go_enter Try.func49, Try.ntmps49
  have hall : ∀ j u, (entE.all l)[j]? = some u → w.cell? ⟨g, j, none⟩ = some u := fun j u hu => by
    rw [← htake, List.getElem?_take] at hu
    split at hu
    · simp only [World.cell?, hg]; simpa using hu
    · cases hu
  have hl1 : (entE.all (l.drop k)).length = (l.length - k) * 3 := by rw [entE.all_length, List.length_drop]; rfl
  have c1 : (entE.all (l.drop k)).length = Nat.min (l.length + 1 - k) (l.length - k) * 3 := by rw [hl1]; congr 1; exact (Nat.min_eq_right (by omega)).symm
  have c2 : ∀ j u, (entE.all (l.drop k))[j]? = some u → w.cell? ((⟨g, k * 3, none⟩ : Addr).add j) = some u := fun j u hu => by
    rw [addr_add _ rfl]
    rw [← entE.all_drop, List.getElem?_drop] at hu
    exact hall _ _ hu
  have c3 : (k + 1) * 3 + (entE.all (l.drop k)).length ≤ cur.size := by rw [hl1, hcur]; omega
  go_wp2_with (simp only [hov])
  have hw1 : IntKind.i64.wrap ((k : Int) + 1) = (k : Int) + 1 := by rw [IntKind.wrap_i64]; omega
  have hb1 : (0 : Int) ≤ (k : Int) + 1 := by omega
  have hb2 : (k : Int) + 1 ≤ (l.length : Int) + 1 := by omega
  have htn : ((k : Int) + 1).toNat = k + 1 := by omega
  have hb3 : ¬ (cap = k + 1) := by omega
  have hb4 : (k : Int) ≤ (l.length : Int) + 1 := by omega
  have hb5 : ¬ (cap = k) := by omega
  go_region_law (refine step_copyK tFil rfl rfl g ((k + 1) * 3) (l.length - k) (cap - (k + 1)) ⟨g, k * 3, none⟩ (l.length + 1 - k) (cap - k) (by simp [Act.eval, Act.put]) (by simp [Act.eval, Act.put]) cur _ hg (entE.all (l.drop k)) c1 c2 c3 (entE.all_oneCell _) ?_)
  clear hov hs1 hs2 hs3 hs4 hw1 htn c1 c2 hb3 hb5
  obtain ⟨w1, hw1⟩ : ∃ w1, w1 = w.drew.setRow g (splice cur.toList ((k + 1) * 3) (entE.all (l.drop k))).toArray := ⟨_, rfl⟩
  have hgrow1 : w.grownBy w1 (some g) := by rw [hw1]; have h := grown_setRow w.drew g (splice cur.toList ((k + 1) * 3) (entE.all (l.drop k))).toArray; exact ⟨h.os, h.tape, h.output, h.size, h.block⟩
  have hg1 : w1.heap[g]? = some (.cells (splice cur.toList ((k + 1) * 3) (entE.all (l.drop k))).toArray 64 (0, 0)) := by rw [hw1]; exact setRow_heap w.drew g cur _ _ _ hg
  have hv1 : ∀ j u, (entE.enc x)[j]? = some u → w1.cell? ((⟨vb, 0, none⟩ : Addr).add j) = some u := fun j u hu => by
    rw [addr_add _ rfl, Nat.zero_add]
    refine hgrow1.cell (a := ⟨vb, j, none⟩) ?_ (by intro e; exact hne (Option.some.inj e))
    simp only [World.cell?, hvb]; simpa using hu
  rw [← hw1]
  clear hw1
  have hlen2 : (splice cur.toList ((k + 1) * 3) (entE.all (l.drop k))).length = cur.size := by rw [length_splice _ _ _ (by simpa using c3)]; simp
  have hfin := splice_splice (L := cur.toList) (cs := entE.all (l.drop k)) (es := entE.enc x) (a := k * 3) (b := (k + 1) * 3) (by rw [entE.len]; show k * 3 + 3 = _; omega) (by simp; rw [hcur]; omega)
  rw [show (k + 1) * 3 + (entE.all (l.drop k)).length = (l.length + 1) * 3 from by rw [hl1]; omega] at hfin
  have hres := ins_cells entE cur.toList l x k (by omega) (ins_take entE _ _ _ (by omega) htake)
  have Hfin := Lib.hid hfin
  have Hres := Lib.hid hres
  clear hfin hres htake
  have hx1 : Nat.min 1 (l.length + 1 - k) = 1 := Nat.min_eq_left (by omega)
  have c4 : (entE.enc x).length = Nat.min 1 (l.length + 1 - k) * 3 := by rw [hx1, entE.len]; rfl
  have c5 : k * 3 + (entE.enc x).length ≤ (splice cur.toList ((k + 1) * 3) (entE.all (l.drop k))).toArray.size := by rw [List.size_toArray, hlen2, entE.len, hcur]; show k * 3 + 3 ≤ _; omega
  have hx0 : entE.all [x] = entE.enc x := entE.all_one x
  generalize splice cur.toList ((k + 1) * 3) (entE.all (l.drop k)) = cur1 at *
  generalize hex : entE.enc x = xs at *
  clear hall hl1 hr
  go_wp2_with (refine wpList_copyK tFil rfl rfl g (k * 3) (l.length + 1 - k) (cap - k) ⟨vb, 0, none⟩ 1 1 (by first | rfl | simp [Act.eval, Act.put]) (by first | rfl | simp [Act.eval, Act.put]) cur1.toArray _ hg1 xs c4 hv1 c5 (by rw [← hex]; exact entE.one x) ?_)
  have hg2 := setRow_heap w1 g cur1.toArray (splice cur1 (k * 3) xs).toArray _ _ hg1
  have hgrow2 := grown_setRow w1 g (splice cur1 (k * 3) xs).toArray
  have hl2 : (splice cur1 (k * 3) xs).length = cap * 3 := by rw [length_splice _ _ _ (by simpa using c5), hlen2, hcur]
  go_ret
  refine ⟨_, rfl, OwnR.of (n := l.length + 1) ⟨⟨?_, .inr ⟨g, cap, _, rfl, hB, hg2, hroom, by unfold maxLen; omega, by rw [List.size_toArray, hl2]; rfl, ?_⟩⟩, entE.all_oneCell _⟩ (by simp; omega) rfl, grown_tr hgrow1 hgrow2, rfl⟩
  · rw [entE.all_length]; congr 1; simp; omega
  · rw [Hfin.out]; exact Hres.out

set_option maxHeartbeats 4000000 in
set_option maxRecDepth 100000 in
theorem insFil_grow (B g vb k : Nat) (l : List Ent) (x : Ent) (w : World) (hl : ∀ j u, (entE.all l)[j]? = some u → w.cell? ⟨g, j, none⟩ = some u)
    (hvb : w.heap[vb]? = some (.cells (entE.enc x).toArray 64 (0, 0))) (hk : k < l.length) (hbytes : (l.length + 1) * 48 ≤ 140737488355328) (hB : B ≤ w.heap.size) :
    Calls Try.prog 49 #[.slice (some ⟨g, 0, none⟩) l.length l.length, .int .i64 (k : Int), .slice (some ⟨vb, 0, none⟩) 1 1] w fun e w' =>
      ∃ v', e = .returned v' ∧ OwnR entE w' B 64 v' (l.take k ++ x :: l.drop k) ∧ Below w.heap.size w w' := by
  have hs1 := run_sl_from tFil (P := Try.prog) g l.length l.length .i64 (k : Int) k rfl (by omega) (by omega) (by omega)
  have hs2 := run_sl_to tFil (P := Try.prog) g l.length l.length .i64 (k : Int) k rfl (by omega) (by omega)
  have hz2 : ¬ ((k : Int) = (l.length : Int)) := by omega
  have hbl : vb < w.heap.size := (Array.getElem?_eq_some_iff.1 hvb).1
  have hgl : g < w.heap.size := by
    have h0 : 0 < (entE.all l).length := by rw [entE.all_length]; show 0 < l.length * 3; omega
    exact World.block_lt_of_cell? w ⟨g, 0, none⟩ (hl 0 _ (List.getElem?_eq_getElem h0))
  have hlk : (entE.all (l.take k)).length = k * 3 := by rw [entE.all_length, List.length_take, Nat.min_eq_left (by omega)]; rfl
  have hlk2 : (entE.all (l.drop k)).length = (l.length - k) * 3 := by rw [entE.all_length, List.length_drop]; rfl
  obtain ⟨cap, zs, hrun, hcap, hmax, hzs⟩ := run_appMk tFil (P := Try.prog) Try.underlying3 w 56 ⟨g, 0, none⟩ k l.length (l.length + 1 - k) .i64 (entE.all (l.take k)) hlk (fun j u hu => by
      rw [addr_add _ rfl, Nat.zero_add]
      rw [← entE.all_take, List.getElem?_take] at hu
      split at hu
      · exact hl j u hu
      · cases hu) (by omega) (by omega) (by omega)
  rw [show k + (l.length + 1 - k) = l.length + 1 from by omega, show ((l.length + 1 - k : Nat) : Int) = (l.length : Int) + 1 - (k : Int) from by omega] at hrun
  rw [show k + (l.length + 1 - k) = l.length + 1 from by omega] at hcap
  obtain ⟨N, hN⟩ : ∃ N, N = w.heap.size := ⟨_, rfl⟩
  obtain ⟨L, hL⟩ : ∃ L, L = entE.all (l.take k) ++ zs := ⟨_, rfl⟩
  obtain ⟨w1, hw1⟩ : ∃ w1, w1 = w.drew.alloc (.cells (entE.all (l.take k) ++ zs).toArray 64) := ⟨_, rfl⟩
  have hb1 : Below w.heap.size w w1 := by rw [hw1]; exact (below_drew _ w).trans (below_alloc w.drew _)
  have hg1 : w1.heap[N]? = some (.cells L.toArray 64 (0, 0)) := by
    rw [hw1, hL, hN]; show (w.heap.push _)[w.heap.size]? = _; simp
  have hLl : L.length = cap * 3 := by rw [hL, List.length_append, hlk, hzs]; omega
  have hLk : L.take (k * 3) = entE.all (l.take k) := by rw [hL, ← hlk, List.take_left]
  rw [← hw1, ← hN] at hrun
  have hv1 : ∀ j u, (entE.enc x)[j]? = some u → w1.cell? ((⟨vb, 0, none⟩ : Addr).add j) = some u := fun j u hu => by
    rw [addr_add _ rfl, Nat.zero_add, hb1.cell (p := ⟨vb, j, none⟩) hbl]
    simp only [World.cell?, hvb]; simpa using hu
  have hl1 : ∀ j u, (entE.all l)[j]? = some u → w1.cell? ⟨g, j, none⟩ = some u := fun j u hu => by
    rw [hb1.cell (p := ⟨g, j, none⟩) hgl]; exact hl j u hu
  have hres := ins_cells entE L l x k (by omega) hLk
  have hfin := splice_splice' (L := L) (cs := entE.all (l.drop k)) (es := entE.enc x) (a := k * 3) (b := (k + 1) * 3) (by rw [entE.len]; show k * 3 + 3 = _; omega) (by omega)
  rw [show (k + 1) * 3 + (entE.all (l.drop k)).length = (l.length + 1) * 3 from by rw [hlk2]; omega] at hfin
  have Hfin := Lib.hid hfin
  have Hres := Lib.hid hres
  have hgN : g ≠ N := by omega
  have hvN : vb ≠ N := by omega
  have c4 : (entE.enc x).length = Nat.min 1 (l.length + 1 - k) * 3 := by rw [show Nat.min 1 (l.length + 1 - k) = 1 from Nat.min_eq_left (by omega), entE.len]; rfl
  have c5 : k * 3 + (entE.enc x).length ≤ L.toArray.size := by rw [List.size_toArray, entE.len, hLl]; show k * 3 + 3 ≤ _; omega
  have c1 : (entE.all (l.drop k)).length = Nat.min (l.length - k) (l.length - k) * 3 := by rw [hlk2]; congr 1; exact (Nat.min_self _).symm
  have c2 : ∀ W : World, w1.grownBy W (some N) → ∀ j u, (entE.all (l.drop k))[j]? = some u → W.cell? ((⟨g, k * 3, none⟩ : Addr).add j) = some u := fun W hW j u hu => by
    rw [addr_add _ rfl]
    rw [← entE.all_drop, List.getElem?_drop] at hu
    exact hW.cell (a := ⟨g, k * 3 + j, none⟩) (hl1 _ _ hu) (by intro e; exact hgN (Option.some.inj e))
  have C2 := Lib.hid c2
  have hlen2 : (splice L (k * 3) (entE.enc x)).length = L.length := length_splice _ _ _ (by simpa using c5)
  have c3 : (k + 1) * 3 + (entE.all (l.drop k)).length ≤ (splice L (k * 3) (entE.enc x)).toArray.size := by rw [List.size_toArray, hlen2, hLl, hlk2]; omega
  have hbx := entE.one x
  obtain ⟨L2, hL2⟩ : ∃ L2, L2 = splice L (k * 3) (entE.enc x) := ⟨_, rfl⟩
  obtain ⟨w2, hw2⟩ : ∃ w2, w2 = w1.setRow N (splice L (k * 3) (entE.enc x)).toArray := ⟨_, rfl⟩
  have hg2 : w2.heap[N]? = some (.cells L2.toArray 64 (0, 0)) := by rw [hw2, hL2]; exact setRow_heap w1 N L.toArray (splice L (k * 3) (entE.enc x)).toArray _ _ hg1
  have hgr2 : w1.grownBy w2 (some N) := by rw [hw2]; exact grown_setRow w1 N _
  rw [← hL2] at c3
  have Hw2 := Lib.hid (hw2.symm)
  have HL2 := Lib.hid hL2
  have HN := Lib.hid hN
  unfold maxLen at hmax
  generalize entE.enc x = xs at *
  clear hw1 hw2 hL2 hfin hres hLk hL hlk hlk2 hzs hl hvb c2 hlen2 hN hl1
  go_enter Try.func49, Try.ntmps49
  go_wp2_with (first
    | (at_builtin; refine Lib.wpList_append_run _ rfl _ _ _ _ rfl _ _ rfl rfl _ _ hrun ?_)
    | (refine wpList_copyK tFil rfl rfl N (k * 3) (l.length + 1 - k) (cap - k) ⟨vb, 0, none⟩ 1 1 (by first | rfl | simp [Act.eval, Act.put]) (by first | rfl | simp [Act.eval, Act.put]) L.toArray _ hg1 xs c4 hv1 c5 hbx ?_; rw [show L.toArray.toList = L from rfl, Hw2.out]))
  have hw1 : IntKind.i64.wrap ((k : Int) + 1) = (k : Int) + 1 := by rw [IntKind.wrap_i64]; omega
  have hb1' : (0 : Int) ≤ (k : Int) + 1 := by omega
  have hb2 : (k : Int) + 1 ≤ (l.length : Int) + 1 := by omega
  have htn : ((k : Int) + 1).toNat = k + 1 := by omega
  have hb3 : ¬ (cap = k + 1) := by omega
  have hb4 : (k : Int) ≤ (l.length : Int) := by omega
  have hb5 : ¬ (l.length = k) := by omega
  have c2 := C2.out w2.drew (grown_drew hgr2)
  go_region_law (refine step_copyK tFil rfl rfl N ((k + 1) * 3) (l.length - k) (cap - (k + 1)) ⟨g, k * 3, none⟩ (l.length - k) (l.length - k) (by simp [Act.eval, Act.put]) (by simp [Act.eval, Act.put]) L2.toArray _ hg2 (entE.all (l.drop k)) c1 c2 c3 (entE.all_oneCell _) ?_)
  obtain ⟨L3, hL3⟩ : ∃ L3, L3 = splice L2 ((k + 1) * 3) (entE.all (l.drop k)) := ⟨_, rfl⟩
  obtain ⟨w3, hw3⟩ : ∃ w3, w3 = w2.drew.setRow N (splice L2.toArray.toList ((k + 1) * 3) (entE.all (l.drop k))).toArray := ⟨_, rfl⟩
  have hg3 : w3.heap[N]? = some (.cells L3.toArray 64 (0, 0)) := by rw [hw3, hL3]; exact setRow_heap w2.drew N L2.toArray _ _ _ hg2
  have hgr3 : w2.grownBy w3 (some N) := by rw [hw3]; have h := grown_setRow w2.drew N (splice L2.toArray.toList ((k + 1) * 3) (entE.all (l.drop k))).toArray; exact ⟨h.os, h.tape, h.output, h.size, h.block⟩
  have hL3l : L3.length = cap * 3 := by
    have e2 : L2.length = L.length := by rw [HL2.out]; exact length_splice _ _ _ (by simpa using c5)
    rw [hL3, length_splice _ _ _ (by simpa using c3), e2, hLl]
  have hfin : L3.take ((l.length + 1) * 3) = entE.all (l.take k ++ x :: l.drop k) := by rw [hL3, HL2.out, Hfin.out]; exact Hres.out
  have Hf := Lib.hid hfin
  rw [← hw3]
  clear hw3 hL3 hfin c1 c2 c3 hrun
  go_wp2_with fail
  go_ret
  have hb3 : Below w.heap.size w w3 := hb1.grown (grown_tr hgr2 hgr3) hb1.size (fun k hk => by cases hk; have := HN.out; omega)
  refine ⟨_, rfl, OwnR.of (n := l.length + 1) ⟨⟨?_, .inr ⟨N, cap, _, rfl, by have := HN.out; omega, hg3, hcap, by unfold maxLen; omega, by rw [List.size_toArray, hL3l]; rfl, ?_⟩⟩, entE.all_oneCell _⟩ (by simp; omega) rfl, hb3⟩
  · rw [entE.all_length]; congr 1; simp; omega
  · exact Hf.out

theorem insFil (B vb k : Nat) (v : Value) (l : List Ent) (x : Ent) (w : World) (own : OwnR entE w B 64 v l) (hvb : w.heap[vb]? = some (.cells (entE.enc x).toArray 64 (0, 0))) (hne : v.ownBlock ≠ some vb)
    (hk : k ≤ l.length) (hbytes : (l.length + 1) * 48 ≤ 140737488355328) (hB : B ≤ w.heap.size) :
    Calls Try.prog 49 #[v, .int .i64 (k : Int), .slice (some ⟨vb, 0, none⟩) 1 1] w fun e w' =>
      ∃ v', e = .returned v' ∧ OwnR entE w' B 64 v' (l.take k ++ x :: l.drop k) ∧ w.grownBy w' v.ownBlock ∧ Below B w w' ∧ (v'.ownBlock = v.ownBlock ∨ ∀ n, v'.ownBlock = some n → w.heap.size ≤ n) := by
  rcases Nat.lt_or_ge k l.length with hlt | hge
  · obtain ⟨⟨h1, h2⟩, h3⟩ := own
    rcases h2 with ⟨rfl, h⟩ | ⟨g, cap, cur, rfl, hb, hg, hn, hm, hs, ht⟩
    · omega
    · have hne' : vb ≠ g := fun e => hne (by rw [e]; rfl)
      have hgl := (Array.getElem?_eq_some_iff.1 hg).1
      have ht' : cur.toList.take (l.length * 3) = entE.all l := ht
      rcases Nat.lt_or_ge l.length cap with hroom | hfull
      · refine (insFil_shift B g cap vb k l x w cur hg hs ht' hvb hne' hlt hroom hm hb).mono ?_
        rintro e w' ⟨v', he, own', hgr, hwh⟩
        exact ⟨v', he, own', hgr, below_grown hgr hB (fun k hk => by cases hk; exact hb), .inl hwh⟩
      · obtain rfl : cap = l.length := by omega
        have hall : ∀ j u, (entE.all l)[j]? = some u → w.cell? ⟨g, j, none⟩ = some u := fun j u hu => by
          rw [← ht', List.getElem?_take] at hu
          split at hu
          · simp only [World.cell?, hg]; simpa using hu
          · cases hu
        refine (insFil_grow w.heap.size g vb k l x w hall hvb hlt hbytes (Nat.le_refl _)).mono ?_
        rintro e w' ⟨v', he, own', hbel⟩
        exact ⟨v', he, own'.base hB, grown_below hbel, hbel.mono hB, .inr fun n hn => (own'.lt n hn).1⟩
  · obtain rfl : k = l.length := by omega
    have hx : Rd entE w (.slice (some ⟨vb, 0, none⟩) 1 1) [x] := by
      refine ⟨by rw [entE.all_length], entE.all_oneCell _, _, 1, rfl, Nat.le_refl _, by unfold maxLen; omega, fun h => (by cases h), fun a ha _ => ?_⟩
      cases ha
      refine ⟨rfl, fun i u hu => ?_⟩
      rw [entE.all_one] at hu
      simp only [World.cell?, hvb, Nat.zero_add]; simpa using hu
    refine (insFil_end B v l x w own _ hx hbytes hB).mono ?_
    rintro e w' ⟨v', he, own', hgr, hbel, hwh⟩
    rw [List.take_of_length_le (Nat.le_refl _), List.drop_of_length_le (Nat.le_refl _)]
    exact ⟨v', he, own', hgr, hbel, hwh.imp id fun h n hn => by rw [h] at hn; cases hn; exact Nat.le_refl _⟩

end Go.Proofs.Ytklopbjlpffnbaa
