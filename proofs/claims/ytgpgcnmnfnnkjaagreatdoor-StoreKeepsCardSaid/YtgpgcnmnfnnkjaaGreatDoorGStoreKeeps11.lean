/- The walk of slices.Delete at disk.file: one element out of a row of the call's own. append where what it makes may be a little more than what came in: the bound is growslice's own. -/
import Derived.Test.YtgpgcnmnfnnkjaaGreatDoorGStoreKeeps9
import Derived.Test.YtgpgcnmnfnnkjaaGreatDoorGStoreKeeps10
import Derived.Deep.DeepAppendWide
set_option linter.unusedVariables false
set_option linter.unusedSimpArgs false
section
namespace Go.Proofs.YtgpgcnmnfnnkjaaGreatDoor
open Go Go.RowKit

def ent0 : Ent := ⟨⟨#[]⟩, none, 0, [], 0⟩
set_option maxHeartbeats 4000000 in
set_option maxRecDepth 100000 in
theorem delFil_core (B g cap k m : Nat) (l : List Ent) (w : World) (hl : l.length = k + 1 + m) (own : OwnR entE w B 96 (.slice (some ⟨g, 0, none⟩) (k + 1 + m) cap) l) (hcap : k + 1 + m ≤ cap) (hmax : cap ≤ maxLen) (hB : B ≤ g) :
 Calls Tryz.prog 115 #[.slice (some ⟨g, 0, none⟩) (k + 1 + m) cap, .int .i64 (k : Int), .int .i64 ((k : Int) + 1)] w fun e w' =>
  e = .returned (.slice (some ⟨g, 0, none⟩) (k + m) cap) ∧ OwnR entE w' B 96 (.slice (some ⟨g, 0, none⟩) (k + m) cap) (l.take k ++ l.drop (k + 1)) ∧ w.grownBy w' (some g) := by
 have own' : Own w B 96 3 (.slice (some ⟨g, 0, none⟩) (k + 1 + m) cap) (k + 1 + m) (entE.all l) := by
  have h : OwnR entE w B 96 (.slice (some ⟨g, 0, none⟩) l.length cap) l := by rw [hl]; exact own
  have h2 : Own w B 96 3 (.slice (some ⟨g, 0, none⟩) l.length cap) l.length (entE.all l) := h
  rw [hl] at h2; exact h2
 unfold maxLen at hmax
 obtain ⟨i0, z0, hi0, hz0, hs0, hb0, hzs0⟩ := tFil.info
 obtain ⟨news, hnews⟩ : ∃ news, news = entE.all (l.drop (k + 1)) := ⟨_, rfl⟩
 have hlen : news.length = m * 3 := by rw [hnews, entE.all_length, List.length_drop, hl]; congr 1; omega
 have hall : ∀ j u, (entE.all l)[j]? = some u → w.cell? ⟨g, j, none⟩ = some u := fun j u hu => by have h := own'.1.cells (g := g) rfl j u hu; rw [addr_add _ rfl, Nat.zero_add] at h; exact h
 have hlall : (entE.all l).length = (k + 1 + m) * 3 := by rw [entE.all_length, hl]; rfl
 have hfz : ∀ j, w.frozen? ⟨g, j, none⟩ = false := fun j => own'.frozenAt j
 obtain ⟨A, hA, hsrc⟩ : ∃ A : Addr, (∀ w', (Instr.slice 88 (.slice (some ⟨g, 0, none⟩) (k + 1 + m) cap) (some (.int .i64 ((k : Int) + 1))) none none).run Tryz.prog w' = .ok (.slice (some A) m (cap - (k + 1))) w') ∧ Hid (∀ j u, news[j]? = some u → w.drew.cell? (A.add j) = some u) := by
  by_cases hc : cap = k + 1
  · have hm0 : m = 0 := by omega
    subst hm0
    refine ⟨⟨g, 0, none⟩, fun w' => ?_, fun j u hu => ?_⟩
    · have h := run_sub_from tFil own'.cells .i64 ((k : Int) + 1) (k + 1) (by omega) (by omega) w'
      rw [h]; simp [subV, subP, hc]
    · have : news = [] := List.length_eq_zero_iff.1 (by omega)
      rw [this] at hu; simp at hu
  · refine ⟨⟨g, (k + 1) * 3, none⟩, fun w' => ?_, fun j u hu => ?_⟩
    · have h := run_sl_from tFil (P := Tryz.prog) g (k + 1 + m) cap .i64 ((k : Int) + 1) (k + 1) (by omega) (by omega) (by omega) (by omega) w'
      rw [h]; rw [show k + 1 + m - (k + 1) = m from by omega]
    · rw [hnews, ← entE.all_drop, List.getElem?_drop] at hu
      show w.cell? _ = _
      rw [addr_add _ rfl]; exact hall _ _ hu
 have hs2 := run_sl_to tFil (P := Tryz.prog) g (k + 1 + m) cap .i64 (k : Int) k rfl (by omega) (by omega)
 have s2 : Hid (∀ u ∈ news, u.oneCell' = true) := by show ∀ _, _; rw [hnews]; exact entE.all_oneCell _
 have s3 : Hid (∀ t, t < news.length → (w.drew.cell? ⟨g, 0 + k * 3 + t, none⟩).isSome = true ∧ w.drew.frozen? ⟨g, 0 + k * 3 + t, none⟩ = false) := by
  intro t ht
  rw [hlen] at ht
  refine ⟨?_, hfz _⟩
  have hlt : 0 + k * 3 + t < (entE.all l).length := by rw [hlall]; omega
  show (w.cell? _).isSome = true
  rw [hall _ _ (List.getElem?_eq_getElem hlt)]; rfl
 obtain ⟨W1, hW1⟩ : ∃ W1, W1 = w.drew.setCells g (0 + k * 3) news := ⟨_, rfl⟩
 have hst := Own.storedAll own'.drew (k * 3) news s2.out
 rw [Nat.zero_add] at hW1
 rw [← hW1] at hst
 obtain ⟨own1, gr1⟩ := hst
 have hs6 := run_sl_btw tFil (P := Tryz.prog) g (k + m) cap .i64 .i64 ((k : Int) + (m : Int)) ((k : Int) + 1 + (m : Int)) (k + m) (k + 1 + m) (by omega) (by omega) (by omega) (by omega) (by omega)
 rw [show k + 1 + m - (k + m) = 1 from by omega] at hs6
 have hpl : (putAt (entE.all l) (k * 3) news).length = (k + 1 + m) * 3 := by rw [putAt_length, hlall]
 have hcl : ∀ ty, (Builtin.clear_ #[88] ty #[.slice (some ⟨g, (k + m) * 3, none⟩) 1 (cap - (k + m))]).run Tryz.prog W1 = .ok (.tuple #[]) (W1.setCells g ((k + m) * 3) (entE.enc ent0)) := fun ty =>
  run_clearR tFil ent0 (.agg #[.string ⟨#[]⟩, .slice none 0 0, .int .i64 0]) Tryz.zeroValue96 rfl ty g ((k + m) * 3) _ W1 (fun j hj => by
   have hj5 : j < 3 := hj
   have hlt : (k + m) * 3 + j < (putAt (entE.all l) (k * 3) news).length := by rw [hpl]; omega
   rw [own1.cellAt _ hlt]; rfl) (fun j _ => own1.frozenAt _)
 obtain ⟨own2, gr2⟩ := Own.storedAll own1 ((k + m) * 3) (entE.enc ent0) (entE.one _)
 have own3 := Own.cut own2 (k + m) (by omega)
 have hfin := del_cells entE l k m hl (entE.enc ent0)
 have hfin' : (putAt (putAt (entE.all l) (k * 3) news) ((k + m) * 3) (entE.enc ent0)).take ((k + m) * 3) = entE.all (l.take k ++ l.drop (k + 1)) := by rw [hnews]; exact hfin
 rw [hfin'] at own3
 have hll : (l.take k ++ l.drop (k + 1)).length = k + m := by simp; omega
 have own4 : OwnR entE (W1.setCells g ((k + m) * 3) (entE.enc ent0)) B 96 (.slice (some ⟨g, 0, none⟩) (k + m) cap) (l.take k ++ l.drop (k + 1)) := OwnR.of own3 hll.symm rfl
 have gr4 : w.grownBy (W1.setCells g ((k + m) * 3) (entE.enc ent0)) (some g) := grown_tr (grown_tr (grown_drew (World.grownBy.refl w (some g))) gr1) gr2
 generalize W1.setCells g ((k + m) * 3) (entE.enc ent0) = W2 at *
 have HW1 : Hid (w.drew.setCells g (0 + k * 3) news = W1) := by show _ = _; rw [Nat.zero_add, hW1]
 have Hlen := Lib.hid hlen
 clear own1 gr1 own2 gr2 own3 hfin hfin' hW1 hall hfz hpl hnews hlen hlall hll own' own hl
 have hk1 : (k : Int) ≤ (k : Int) + 1 := by omega
 have hk2 : (k : Int) + 1 ≤ (k : Int) + 1 + (m : Int) := by omega
 have hk3 : (k : Int) + 1 + (m : Int) ≤ (cap : Int) := by omega
 have hne : ¬ (k : Int) = (k : Int) + 1 := by omega
 go_enter Tryz.func115, Tryz.ntmps115
 go_wp2_with fail
 go_region_law (refine step_append_room rfl (.tmp 22) (.tmp 25) 88 rfl 96 i0 3 tFil.under hi0 hs0 g 0 k cap (by simp [Act.eval, Act.put]) A m (cap - (k + 1)) news (by simp [Act.eval, Act.put]) Hlen.out hsrc.out s2.out (by omega) s3.out ?_; rw [HW1.out])
 go_wp2
 go_ret
 exact ⟨rfl, own4, gr4⟩

theorem delFil (B k : Nat) (v : Value) (l : List Ent) (w : World) (own : OwnR entE w B 96 v l) (hk : k < l.length) (hB : B ≤ w.heap.size) :
 Calls Tryz.prog 115 #[v, .int .i64 (k : Int), .int .i64 ((k : Int) + 1)] w fun e w' =>
  ∃ v', e = .returned v' ∧ OwnR entE w' B 96 v' (l.take k ++ l.drop (k + 1)) ∧ w.grownBy w' v.ownBlock ∧ Below B w w' ∧ v'.ownBlock = v.ownBlock := by
 obtain ⟨g, cap, rfl, h1, h2, h3, h4⟩ := own.head (by omega)
 obtain ⟨m, hm⟩ : ∃ m, l.length = k + 1 + m := ⟨l.length - (k + 1), by omega⟩
 have own' : OwnR entE w B 96 (.slice (some ⟨g, 0, none⟩) (k + 1 + m) cap) l := by rw [← hm]; exact own
 rw [hm]
 refine (delFil_core B g cap k m l w hm own' (by omega) h4 h1).mono ?_
 rintro e w' ⟨he, own2, gr⟩
 exact ⟨_, he, own2, gr, below_grown gr hB (fun b hb => by cases hb; exact h1), rfl⟩
end Go.Proofs.YtgpgcnmnfnnkjaaGreatDoor
end

section
namespace Go.Proofs.YtgpgcnmnfnnkjaaGreatDoor
open Go Go.RowKit
theorem run_appX {P : Program} {t e : TypeId} {sz bytes : Nat} (T : SlT P t e sz bytes) {w : World} (ty : TypeId) {B n : Nat} {v : Value} {xs : List Value} (own : Own w B e sz v n xs)
 {m : Nat} {x : Value} {news : List Value} (src : Cells w sz x m news) (hmax : n + m ≤ maxLen) (hbytes : ((n + m) + (n + m) / 4 + 192) * bytes ≤ 281474976710656) (hB : B ≤ w.heap.size) :
 ∃ v' w', (Builtin.append_ #[t, t] ty #[v, x]).run P w = .ok v' w' ∧ Own w' B e sz v' (n + m) (xs ++ news) ∧ w.grownBy w' v.ownBlock ∧ Below B w w' := by
 obtain ⟨i, z, hi, hz, hs, hby, hzs⟩ := T.info
 obtain ⟨c1, c0, p, cap, rfl, c2, c3, c4, c5⟩ := src
 have hall : ∀ u ∈ xs ++ news, u.oneCell' = true := by
  intro u hu; rcases List.mem_append.1 hu with h | h
  · exact own.2 u h
  · exact c0 u h
 cases p with
 | none =>
  have hc := c4 rfl; subst hc
  have hm : m = 0 := by omega
  subst hm
  have hn : news = [] := List.length_eq_zero_iff.1 (by simpa using c1)
  subst hn
  refine ⟨v, w, run_append_owned_none w B t ty e i sz T.under hi v n xs own.1, ?_, World.grownBy.refl _ _, Below.refl _ _⟩
  simpa using own
 | some a =>
  have hpos : ∀ {j : Nat} {u : Value}, news[j]? = some u → 0 < m := fun {j u} hu => by
   have := (List.getElem?_eq_some_iff.1 hu).1
   rcases Nat.eq_zero_or_pos m with h0 | h0
   · subst h0; omega
   · exact h0
  obtain ⟨v', w', hr, h2, h3, _⟩ := run_append_own_wide (P := P) w B t ty e i z sz bytes T.under hi hz hs hby hzs T.pos v n xs own.1 a m cap news c1
   (fun j u hu => by obtain ⟨c6, c7⟩ := c5 a rfl (hpos hu); rw [addr_add a c6]; exact c7 j u hu) c0 hmax hbytes hB
  exact ⟨v', w', hr, ⟨h2, hall⟩, h3, below_grown h3 hB fun k hk => (own.1.lt k hk).1⟩
section
variable {P : Program} {t e : TypeId} {bytes : Nat} {w : World} {ops : Array Oper} {o : Oper} {rest : List Oper} {a : Act} {Q : Exit → Act → World → Prop} {α : Type} {E : Enc α}
theorem step_appX {K : Act → World → Prop} {X : Prop} (T : SlT P t e E.sz bytes) (hgd : o.guard = none) {s y : Operand} (ho : o.op = .call { callee := .builtin .append, args := #[s, y], argTypes := #[t, t] })
 {B : Nat} {v : Value} {l : List α} (own : OwnR E w B e v l) (hs : a.eval s = v)
 {x : Value} {m : List α} (src : Rd E w x m) (hx : a.eval y = x) (hmax : l.length + m.length ≤ maxLen) (hbytes : ((l.length + m.length) + (l.length + m.length) / 4 + 192) * bytes ≤ 281474976710656) (hB : B ≤ w.heap.size)
 (h : ∀ v' w', OwnR E w' B e v' (l ++ m) → w.grownBy w' v.ownBlock → Below B w w' → K (a.put o.dst v') w') : if Region.wanted o (yielded ops a.tmps) = true then Oper.wp P o a w K Q else X := by
 have hw : Region.wanted o (yielded ops a.tmps) = true := by simp [Region.wanted, hgd]
 rw [if_pos hw]
 obtain ⟨v', w', hr, h2, h3, h4⟩ := run_appX T o.type own src hmax hbytes hB
 unfold Oper.wp execOp
 simp only [ho, resolve, invoke, builtin, Sem.run_bind, Sem.run_pure, Result.andThen_ok, List.map_toArray, List.map_cons, List.map_nil, hs, hx, hr]
 exact h v' w' (OwnR.snoc h2) h3 h4
end
end Go.Proofs.YtgpgcnmnfnnkjaaGreatDoor
end
