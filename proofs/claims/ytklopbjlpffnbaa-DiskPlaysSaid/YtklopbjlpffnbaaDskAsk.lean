/- What arguments of the type []impostlaw16.Ask and [][]byte read as. -/
import Derived.Test.YtklopbjlpffnbaaDskP
import Derived.Test.YtklopbjlpffnbaaOpenRd
import Derived.Lib.SmallJoins
namespace Go.Proofs.Ytklopbjlpffnbaa
open Go Go.RowKit Go.ChangeShapes Go.WideShapes Go.ChangeAt Go.Deep Go.Joins
/-- a call as it lies -/
structure AskV where
  kind : Int
  n : Int
  name : ByteArray
  other : ByteArray
  dp : Option Addr
  dc : Nat
  data : List UInt8
  pp : Option Addr
  pc : Nat
  picks : List Int
def AskV.vd (x : AskV) : Value := .slice x.dp x.data.length x.dc
def AskV.vp (x : AskV) : Value := .slice x.pp x.picks.length x.pc
def askE : Enc AskV := ⟨6, fun x => [.int .i64 x.kind, .int .i64 x.n, .string x.name, .string x.other, .slice x.dp x.data.length x.dc, .slice x.pp x.picks.length x.pc], fun _ => rfl, fun _ v hv => by
  simp only [List.mem_cons, List.not_mem_nil, or_false] at hv
  rcases hv with rfl | rfl | rfl | rfl | rfl | rfl <;> rfl, by decide⟩
structure AskOk (w : World) (x : AskV) : Prop where
  data : Bytes w x.vd x.data
  picks : Rd intsE w x.vp x.picks
  hi : ∀ z ∈ x.picks, z ≤ 9223372036854775807
  name : x.name.size ≤ 4611686018427387904
  other : x.other.size ≤ 4611686018427387904
theorem AskOk.ext {w w' : World} {x : AskV} (h : AskOk w x) (hb : Below w.heap.size w w') : AskOk w' x := ⟨h.data.ext hb, h.picks.ext hb, h.hi, h.name, h.other⟩
theorem list_of_ask {cs : List Value} (h : cs.length = 6) : ∃ a0 a1 a2 a3 a4 a5, cs = [a0, a1, a2, a3, a4, a5] := by
  match cs, h with
  | [a0, a1, a2, a3, a4, a5], _ => exact ⟨a0, a1, a2, a3, a4, a5, rfl⟩
/-- bytes, by the reading alone -/
theorem open_bytes_trod2 {H : Type} {enc : TypeId × Value → H} {P : Program} {W : World} {t e : TypeId} {v : Value} {fuel : Nat} {y : DataW H × List MemPlace}
    (hu : P.underlying t = some (.slice e)) (he : P.underlying e = some (.int .u8)) (hc : P.cellsOf e = 1)
    (h : DataW.trod enc P W 0 (fun _ => true) true fuel t [v] = some y) : ∃ l : List UInt8, Bytes W v l := by
  have hsh : ∃ a len cap, v = .slice a len cap := by
    rcases open_slice hu h with ⟨hcs, _⟩ | ⟨a, len, cap, _, _, _, _, hcs, _⟩
    · exact ⟨none, 0, 0, by simpa using hcs⟩
    · exact ⟨some a, len, cap, by simpa using hcs⟩
  obtain ⟨a, len, cap, rfl⟩ := hsh
  have hf : DataW.trod enc P W 0 (fun _ => true) true fuel t (Value.slice a len cap).cells.toList = some y := by simpa [Value.cells] using h
  rcases open_ints hu he hc hf with ⟨hcs, hx⟩ | ⟨x, l, c, zs, hcs, _, hl, hm, hz, hx, hcell, hwz⟩
  · simp [Value.cells] at hcs
    obtain ⟨rfl, rfl, rfl⟩ := hcs
    exact ⟨[], Bytes.nil W⟩
  · simp [Value.cells] at hcs
    obtain ⟨rfl, rfl, rfl⟩ := hcs
    simp at hz
    obtain ⟨l, h1, h2⟩ := bytes_of_ints hl hm hz hcell hwz
    exact ⟨l, h1⟩
theorem open_ints_trod2 {H : Type} {enc : TypeId × Value → H} {P : Program} {W : World} {t e : TypeId} {v : Value} {fuel : Nat} {y : DataW H × List MemPlace}
    (hu : P.underlying t = some (.slice e)) (he : P.underlying e = some (.int .i64)) (hc : P.cellsOf e = 1)
    (h : DataW.trod enc P W 0 (fun _ => true) true fuel t [v] = some y) : ∃ l : List Int, Rd intsE W v l ∧ (∀ x ∈ l, -9223372036854775808 ≤ x ∧ x ≤ 9223372036854775807) := by
  have hsh : ∃ a len cap, v = .slice a len cap := by
    rcases open_slice hu h with ⟨hcs, _⟩ | ⟨a, len, cap, _, _, _, _, hcs, _⟩
    · exact ⟨none, 0, 0, by simpa using hcs⟩
    · exact ⟨some a, len, cap, by simpa using hcs⟩
  obtain ⟨a, len, cap, rfl⟩ := hsh
  have hf : DataW.trod enc P W 0 (fun _ => true) true fuel t (Value.slice a len cap).cells.toList = some y := by simpa [Value.cells] using h
  rcases open_ints hu he hc hf with ⟨hcs, hx⟩ | ⟨x, l, c, zs, hcs, _, hl, hm, hz, hx, hcell, hwz⟩
  · simp [Value.cells] at hcs
    obtain ⟨rfl, rfl, rfl⟩ := hcs
    exact ⟨[], Rd.nil W, by simp⟩
  · simp [Value.cells] at hcs
    obtain ⟨rfl, rfl, rfl⟩ := hcs
    simp at hz
    have hlen : (zs.take len).length = len := by rw [List.length_take]; omega
    refine ⟨zs.take len, ?_, fun y hy => ?_⟩
    · unfold Rd
      rw [hlen]
      refine ⟨by rw [intsE.all_length, hlen], intsE.all_oneCell _, some x, cap, rfl, hl, hm, fun h => (by cases h), fun a ha hn => ?_⟩
      cases ha
      have hs := spot_none (hcell 0 (by omega))
      refine ⟨hs, fun i u hu => ?_⟩
      have hi : i < len := by
        have := (List.getElem?_eq_some_iff.1 hu).1
        rw [intsE.all_length, hlen] at this; simpa [intsE] using this
      have e1 := intsE.all_get (zs.take len) i (by omega) 0 Nat.one_pos
      simp only [intsE, Nat.mul_one, Nat.add_zero] at e1
      have hu' : (Enc.all intsE (zs.take len))[i]? = some u := hu
      simp only [intsE] at hu'
      rw [e1] at hu'
      simp at hu'
      subst hu'
      have := hcell i (by omega)
      rw [addr_add x hs] at this
      rw [this]
      simp [List.getD, show i < zs.length from by omega]
    · have := hwz y (List.mem_of_mem_take hy)
      simp [Lit.wf, IntKind.min, IntKind.max, IntKind.bits, IntKind.signed] at this; omega
theorem elem_ask {H : Type} {enc : TypeId × Value → H} {W : World} (fuel : Nat) (cs : List Value) (y : DataW H × List MemPlace) (h : DataW.trod enc Try.prog W 0 (fun _ => true) true fuel 46 cs = some y) :
    ∃ x : AskV, cs = askE.enc x ∧ ((Bytes W x.vd x.data ∧ Rd intsE W x.vp x.picks ∧ ∀ z ∈ x.picks, z ≤ 9223372036854775807) ∧ x.name.size ∈ y.1.weights Try.prog 46 ∧ x.other.size ∈ y.1.weights Try.prog 46) := by
  have hu := Try.underlying46
  obtain ⟨xs, n, rfl, rfl, hlen, hxl, hf⟩ := DataW.trod_struct hu h
  obtain ⟨a0, a1, a2, a3, a4, a5, rfl⟩ := list_of_ask (hlen.trans (by kernel_rfl))
  have k0 : Try.prog.cellsOf 9 = 1 := by kernel_rfl
  have k1 : Try.prog.cellsOf 3 = 1 := by kernel_rfl
  have k2 : Try.prog.cellsOf 25 = 1 := by kernel_rfl
  have k3 : Try.prog.cellsOf 44 = 1 := by kernel_rfl
  have h0 : DataW.trod enc Try.prog W 0 (fun _ => true) true n 3 (([a0, a1, a2, a3, a4, a5].drop 0).take (Try.prog.cellsOf 3)) = xs[0]? := hf 0 _ rfl
  have h1 : DataW.trod enc Try.prog W 0 (fun _ => true) true n 3 (([a0, a1, a2, a3, a4, a5].drop 1).take (Try.prog.cellsOf 3)) = xs[1]? := hf 1 _ rfl
  have h2 : DataW.trod enc Try.prog W 0 (fun _ => true) true n 9 (([a0, a1, a2, a3, a4, a5].drop 2).take (Try.prog.cellsOf 9)) = xs[2]? := hf 2 _ rfl
  have h3 : DataW.trod enc Try.prog W 0 (fun _ => true) true n 9 (([a0, a1, a2, a3, a4, a5].drop 3).take (Try.prog.cellsOf 9)) = xs[3]? := hf 3 _ rfl
  have h4 : DataW.trod enc Try.prog W 0 (fun _ => true) true n 25 (([a0, a1, a2, a3, a4, a5].drop 4).take (Try.prog.cellsOf 25)) = xs[4]? := hf 4 _ rfl
  have h5 : DataW.trod enc Try.prog W 0 (fun _ => true) true n 44 (([a0, a1, a2, a3, a4, a5].drop 5).take (Try.prog.cellsOf 44)) = xs[5]? := hf 5 _ rfl
  rw [k1] at h0 h1
  rw [k0] at h2 h3
  rw [k2] at h4
  rw [k3] at h5
  simp only [List.drop_zero, List.take_succ_cons, List.take_zero, List.drop_succ_cons] at h0 h1 h2 h3 h4 h5
  have hx0 : xs[0]? = some (xs[0]'(by rw [hxl]; decide)) := List.getElem?_eq_getElem _
  have hx1 : xs[1]? = some (xs[1]'(by rw [hxl]; decide)) := List.getElem?_eq_getElem _
  have hx2 : xs[2]? = some (xs[2]'(by rw [hxl]; decide)) := List.getElem?_eq_getElem _
  have hx3 : xs[3]? = some (xs[3]'(by rw [hxl]; decide)) := List.getElem?_eq_getElem _
  have hx4 : xs[4]? = some (xs[4]'(by rw [hxl]; decide)) := List.getElem?_eq_getElem _
  have hx5 : xs[5]? = some (xs[5]'(by rw [hxl]; decide)) := List.getElem?_eq_getElem _
  obtain ⟨z0, e0, _, _⟩ := DataW.trod_int Try.underlying3 (h0.trans hx0)
  obtain ⟨z1, e1, _, _⟩ := DataW.trod_int Try.underlying3 (h1.trans hx1)
  obtain ⟨z2, e2, w2, _⟩ := DataW.trod_string Try.underlying9 (h2.trans hx2)
  obtain ⟨z3, e3, w3, _⟩ := DataW.trod_string Try.underlying9 (h3.trans hx3)
  obtain ⟨l4, b4⟩ := open_bytes_trod2 Try.underlying25 Try.underlying5 (by kernel_rfl) (h4.trans hx4)
  obtain ⟨l5, b5, r5⟩ := open_ints_trod2 Try.underlying44 Try.underlying3 (by kernel_rfl) (h5.trans hx5)
  simp only [List.cons.injEq, and_true] at e0 e1 e2 e3
  subst e0; subst e1; subst e2; subst e3
  obtain ⟨p4, c4, rfl⟩ := b4.shape
  obtain ⟨p5, c5, rfl⟩ := b5.shape
  have m2 : (xs.map (·.1))[2]? = some (DataW.lit (.string z2.data.toList)) := by rw [List.getElem?_map, hx2, Option.map_some, w2]
  have m3 : (xs.map (·.1))[3]? = some (DataW.lit (.string z3.data.toList)) := by rw [List.getElem?_map, hx3, Option.map_some, w3]
  exact ⟨⟨z0, z1, z2, z3, p4, c4, l4, p5, c5, l5⟩, rfl, ⟨b4, b5, fun z hz => (r5 z hz).2⟩, weigh_field hu (j := 2) rfl m2 _ weigh_string, weigh_field hu (j := 3) rfl m3 _ weigh_string⟩
theorem open_asks {H : Type} {enc : TypeId × Value → H} {W : World} {base : Nat} {v : Value} {d : DataW H} {p : List MemPlace} {ts : List TypeId} {ds : List (DataW H)} (j : Nat)
    (ht : ts[j]? = some 43) (hd : ds[j]? = some d) (hok : Value.okWide Try.prog W .any base 43 v) (h : DataW.Trod enc Try.prog W 0 (fun _ => true) true 43 v d p)
    (hsz : (DataW.weightsEach Try.prog ts ds).all (· ≤ reachBytes) = true) : ∃ l : List AskV, Rd askE W v l ∧ ∀ x ∈ l, AskOk W x := by
  obtain ⟨l, h1, _, h3⟩ := open_rd askE Try.underlying43 (by kernel_rfl) (fun (x : AskV) (dx : DataW H) => (Bytes W x.vd x.data ∧ Rd intsE W x.vp x.picks ∧ ∀ z ∈ x.picks, z ≤ 9223372036854775807) ∧ x.name.size ∈ dx.weights Try.prog 46 ∧ x.other.size ∈ dx.weights Try.prog 46) elem_ask hok h
  refine ⟨l, h1, fun x hx => ?_⟩
  obtain ⟨dx, ⟨⟨g1, g2, g3⟩, g4, g5⟩, hin⟩ := h3 x hx
  exact ⟨g1, g2, g3, Nat.le_trans (reach_of hsz ht hd (hin _ g4)) (by decide), Nat.le_trans (reach_of hsz ht hd (hin _ g5)) (by decide)⟩
/-- bytes as they lie in a row -/
structure BsV where
  p : Option Addr
  c : Nat
  data : List UInt8
def BsV.v (x : BsV) : Value := .slice x.p x.data.length x.c
def bsE : Enc BsV := ⟨1, fun x => [.slice x.p x.data.length x.c], fun _ => rfl, fun _ v hv => by simp only [List.mem_singleton] at hv; subst hv; rfl, Nat.one_pos⟩
theorem elem_bs {H : Type} {enc : TypeId × Value → H} {W : World} (fuel : Nat) (cs : List Value) (y : DataW H × List MemPlace) (h : DataW.trod enc Try.prog W 0 (fun _ => true) true fuel 25 cs = some y) :
    ∃ x : BsV, cs = bsE.enc x ∧ Bytes W x.v x.data := by
  have hone : ∃ v, cs = [v] := by
    rcases open_slice Try.underlying25 h with ⟨hcs, _⟩ | ⟨a, len, cap, _, _, _, _, hcs, _⟩
    · exact ⟨_, hcs⟩
    · exact ⟨_, hcs⟩
  obtain ⟨v, rfl⟩ := hone
  obtain ⟨l, hb⟩ := open_bytes_trod2 Try.underlying25 Try.underlying5 (by kernel_rfl) h
  obtain ⟨p, c, rfl⟩ := hb.shape
  exact ⟨⟨p, c, l⟩, rfl, hb⟩
theorem open_bss {H : Type} {enc : TypeId × Value → H} {W : World} {base : Nat} {v : Value} {d : DataW H} {p : List MemPlace} {ts : List TypeId} {ds : List (DataW H)} (j : Nat)
    (_ : ts[j]? = some 34) (_ : ds[j]? = some d) (hok : Value.okWide Try.prog W .any base 34 v) (h : DataW.Trod enc Try.prog W 0 (fun _ => true) true 34 v d p)
    (_ : (DataW.weightsEach Try.prog ts ds).all (· ≤ reachBytes) = true) : ∃ l : List BsV, Rd bsE W v l ∧ ∀ x ∈ l, Bytes W x.v x.data := by
  obtain ⟨l, h1, _, h3⟩ := open_rd bsE Try.underlying34 (by kernel_rfl) (fun (x : BsV) (_ : DataW H) => Bytes W x.v x.data) elem_bs hok h
  exact ⟨l, h1, fun x hx => by obtain ⟨_, g, _⟩ := h3 x hx; exact g⟩
end Go.Proofs.Ytklopbjlpffnbaa
