/- What a law's arguments read as, and what the form's reach and the bulk say of their lengths. -/
import Derived.Test.YtklopbjlpffnbaaRows
import Derived.Test.YtklopbjlpffnbaaBase
import Derived.WalkKit
import Derived.ProofKit
import Derived.OpenShut
import Derived.ShutString
import Derived.ChangeOld
import Derived.Below
import Derived.SizedLaws
import Derived.JoinedCond
import Derived.Deep.CondSized
import Derived.ChangeMaps5
namespace Go.Proofs.Ytklopbjlpffnbaa
open Go Go.RowKit Go.ChangeShapes Go.WideShapes Go.ChangeAt

theorem rowOwn : ownKnob Try.prog.godebug = none := by kernel_rfl
theorem rowLaid : laidOutB Try.prog = true := by kernel_rfl

/-- so many elements -/
def DLen {H : Type} (d : DataW H) (n : Nat) : Prop := (d = .nil ∧ n = 0) ∨ ∃ es sp, d = .slice es sp ∧ es.length = n

theorem bytes_of_ints {W : World} {x : Addr} {len cap : Nat} {zs : List Int} (hl : len ≤ cap) (hm : cap ≤ maxLen) (hz : zs.length = cap)
    (hcell : ∀ i, i < zs.length → W.cell? (x.add i) = some (.int .u8 (zs.getD i 0))) (hwz : ∀ n ∈ zs, (Lit.int .u8 n).wf = true) : ∃ l : List UInt8, Bytes W (.slice (some x) len cap) l ∧ l.length = len := by
  have hlen : (zs.take len).length = len := by rw [List.length_take]; omega
  have hb : ∀ z ∈ zs, 0 ≤ z ∧ z < 256 := fun z hz => by
    have := hwz z hz
    simp [Lit.wf, IntKind.min, IntKind.max, IntKind.bits, IntKind.signed] at this; omega
  refine ⟨(zs.take len).map fun z => UInt8.ofNat z.toNat, ?_, by rw [List.length_map, hlen]⟩
  refine ⟨by simp, fun u hu => ?_, some x, cap, by rw [List.length_map, hlen], by rw [List.length_map, hlen]; omega, hm, fun h => (by cases h), fun a ha hn => ?_⟩
  · obtain ⟨y, _, rfl⟩ := List.mem_map.1 hu; rfl
  · cases ha
    rw [List.length_map, hlen] at hn
    have hz0 : 0 < zs.length := by omega
    have hs : x.spot = none := by
      have := hcell 0 hz0
      rw [show x.add 0 = x from by simp [Addr.add]] at this
      unfold World.cell? at this
      split at this
      · by_cases hsp : x.spot.isSome = true
        · rw [if_pos hsp] at this; cases this
        · simpa using hsp
      · cases this
    refine ⟨hs, fun i u hu => ?_⟩
    simp only [List.getElem?_map] at hu
    rw [List.getElem?_take] at hu
    split at hu
    · rename_i hi
      have hiz : i < zs.length := by omega
      rw [List.getElem?_eq_getElem hiz] at hu
      simp at hu
      subst hu
      have := hcell i hiz
      rw [addr_add x hs] at this
      rw [this]
      have hb' := hb zs[i] (List.getElem_mem _)
      simp [List.getD, hiz, byteV]
      omega
    · simp at hu

theorem open_bytes {H : Type} {enc : TypeId × Value → H} {P : Program} {W : World} {t e : TypeId} {base : Nat} {v : Value} {d : DataW H} {p : List MemPlace}
    (hu : P.underlying t = some (.slice e)) (he : P.underlying e = some (.int .u8)) (hc : P.cellsOf e = 1) (hok : Value.okWide P W .any base t v)
    (h : DataW.Trod enc P W 0 (fun _ => true) true t v d p) : ∃ l : List UInt8, Bytes W v l ∧ DLen d l.length := by
  obtain ⟨a, len, cap, rfl⟩ := okWide_slice hu hok
  obtain ⟨fuel, hf⟩ := h
  rcases open_ints hu he hc hf with ⟨hcs, hx⟩ | ⟨x, l, c, zs, hcs, _, hl, hm, hz, hx, hcell, hwz⟩
  · simp [Value.cells] at hcs
    obtain ⟨rfl, rfl, rfl⟩ := hcs
    simp only [Prod.mk.injEq] at hx
    exact ⟨[], Bytes.nil W, .inl ⟨hx.1, rfl⟩⟩
  · simp [Value.cells] at hcs
    obtain ⟨rfl, rfl, rfl⟩ := hcs
    simp only [Prod.mk.injEq] at hx
    simp at hz
    obtain ⟨l, h1, h2⟩ := bytes_of_ints hl hm hz hcell hwz
    refine ⟨l, h1, .inr ⟨_, _, hx.1, ?_⟩⟩
    rw [h2]; simp [lits]; omega

theorem open_u32 {H : Type} {enc : TypeId × Value → H} {P : Program} {W : World} {t : TypeId} {base : Nat} {v : Value} {d : DataW H} {p : List MemPlace}
    (hu : P.underlying t = some (.int .u32)) (hok : Value.okWide P W .any base t v)
    (h : DataW.Trod enc P W 0 (fun _ => true) true t v d p) : ∃ c : BitVec 32, v = .int .u32 (c.toNat : Int) := by
  obtain ⟨x, rfl, rfl, rfl, wx⟩ := open_int hu hok h
  have hb : 0 ≤ x ∧ x < 4294967296 := by simp [Lit.wf, IntKind.min, IntKind.max, IntKind.bits, IntKind.signed] at wx; omega
  refine ⟨BitVec.ofNat 32 x.toNat, ?_⟩
  rw [BitVec.toNat_ofNat, Nat.mod_eq_of_lt (by omega)]
  congr 1; omega

theorem open_i64 {H : Type} {enc : TypeId × Value → H} {P : Program} {W : World} {t : TypeId} {base : Nat} {v : Value} {d : DataW H} {p : List MemPlace}
    (hu : P.underlying t = some (.int .i64)) (hok : Value.okWide P W .any base t v)
    (h : DataW.Trod enc P W 0 (fun _ => true) true t v d p) : ∃ x : Int, v = .int .i64 x ∧ -9223372036854775808 ≤ x ∧ x ≤ 9223372036854775807 := by
  obtain ⟨x, rfl, rfl, rfl, wx⟩ := open_int hu hok h
  refine ⟨x, rfl, ?_⟩
  simp [Lit.wf, IntKind.min, IntKind.max, IntKind.bits, IntKind.signed] at wx; omega

/-- the reach, of a slice -/
theorem sized_dlen {H : Type} {P : Program} {ts : List TypeId} {ds : List (DataW H)} (h : (DataW.weightsEach P ts ds).all (· ≤ reachBytes) = true) {j : Nat} {t e : TypeId} {d : DataW H} {n : Nat} {bytes : Nat} (hd : DLen d n)
    (ht : ts[j]? = some t) (hj : ds[j]? = some d) (hu : P.underlying t = some (.slice e)) (hb : P.bytesOf e = bytes) : n * bytes ≤ 140737488351232 := by
  rcases hd with ⟨rfl, rfl⟩ | ⟨es, sp, rfl, rfl⟩
  · omega
  · have := sized_slice h ht hj hu
    rw [hb, Nat.add_mul] at this
    simp only [reachBytes] at this
    omega

theorem bulk_one_le {H : Type} (d : DataW H) : 1 ≤ Rows.uptoBulk d := by
  cases d with
  | lit l => cases l <;> simp [Rows.uptoBulk]
  | _ => simp [Rows.uptoBulk]
theorem bulk_length_le {H : Type} (l : List (DataW H)) : l.length ≤ Rows.uptoBulkAll l := by
  induction l with
  | nil => simp [Rows.uptoBulkAll]
  | cons x r ih => have := bulk_one_le x; simp only [Rows.uptoBulkAll, List.length_cons]; omega
theorem bulk_dlen {H : Type} {d : DataW H} {n : Nat} (h : DLen d n) : n + 1 ≤ Rows.uptoBulk d := by
  rcases h with ⟨rfl, rfl⟩ | ⟨es, sp, rfl, rfl⟩
  · simp [Rows.uptoBulk]
  · have := bulk_length_le es; simp only [Rows.uptoBulk]; omega

theorem open_string1 {H : Type} {enc : TypeId × Value → H} {P : Program} {W : World} {t : TypeId} {base : Nat} {v : Value} {d : DataW H} {p : List MemPlace}
    (hu : P.underlying t = some .string) (hok : Value.okWide P W .any base t v)
    (h : DataW.Trod enc P W 0 (fun _ => true) true t v d p) : ∃ s : ByteArray, d = .lit (.string s.data.toList) ∧ v = .string s := by
  obtain ⟨s, h1, h2, _, _⟩ := Go.ChangeMaps.open_string hu hok h
  exact ⟨s, h2, h1⟩
theorem open_bool1 {H : Type} {enc : TypeId × Value → H} {P : Program} {W : World} {t : TypeId} {base : Nat} {v : Value} {d : DataW H} {p : List MemPlace}
    (hu : P.underlying t = some .bool) (hok : Value.okWide P W .any base t v)
    (h : DataW.Trod enc P W 0 (fun _ => true) true t v d p) : ∃ b : Bool, v = .bool b := by
  obtain ⟨b, h1, _⟩ := open_bool hu hok h
  exact ⟨b, h1⟩
/-- the reach, of a string -/
theorem sized_str {H : Type} {P : Program} {ts : List TypeId} {ds : List (DataW H)} (h : (DataW.weightsEach P ts ds).all (· ≤ reachBytes) = true) {j : Nat} {t : TypeId} {d : DataW H} {s : ByteArray} (hd : d = .lit (.string s.data.toList))
    (ht : ts[j]? = some t) (hj : ds[j]? = some d) : s.size ≤ 140737488351232 := by
  subst hd
  have := sized_string h ht hj
  simp only [reachBytes] at this
  have e : s.size = s.data.toList.length := (Array.length_toList (xs := s.data)).symm
  omega
theorem bulk_string {H : Type} {d : DataW H} {s : ByteArray} (hd : d = .lit (.string s.data.toList)) : s.size ≤ Rows.uptoBulk d := by
  subst hd
  have e : s.size = s.data.toList.length := (Array.length_toList (xs := s.data)).symm
  simp only [Rows.uptoBulk]; omega

end Go.Proofs.Ytklopbjlpffnbaa
