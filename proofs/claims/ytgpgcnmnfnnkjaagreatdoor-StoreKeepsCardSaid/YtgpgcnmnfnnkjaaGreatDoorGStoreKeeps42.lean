/- The walk of the store's Open. -/
import Derived.Test.YtgpgcnmnfnnkjaaGreatDoorGStoreKeeps41
set_option linter.unusedVariables false
set_option linter.unusedSimpArgs false
section
namespace Go.Proofs.YtgpgcnmnfnnkjaaGreatDoor
open Go Go.RowKit Go.PlainAid BigFrame
attribute [local go_sem] After.same
theorem open_base {d : Dk} {ws : Wl} (h : openW d = some ws) : 0 ≤ ws.h.base ∧ ws.h.base ≤ 1099511627776 := by
 unfold openW at h
 split at h
 · cases h
   show 0 ≤ (openH d).base ∧ (openH d).base ≤ _
   unfold openH
   rcases pickN_cases d with e | ⟨n, f, hn, _, e, hw⟩
   · rw [e, if_pos rfl]; exact ⟨by decide, by decide⟩
   · rw [e, if_neg (by have := hn.1; dsimp only; omega)]
     have ok := readSeg_ok f.data
     obtain ⟨⟨a1, a2, a3, a4, a5, a6, a7, a8, _⟩, _⟩ := (bareH_all _).1 (ok.bare (ok.wh hw))
     exact ⟨a7, a8⟩
 · cases h
def OpenedP (w0 w : World) (X : Nat → Prop) (g : Nat) (d' : Dk) (E : Int) (o : Option Sto) (e : Ending) (w' : World) : Prop :=
 (match o with
 | none => E ≠ 0 ∧ e = .returned (.tuple #[.pointer none, .int .i64 E])
 | some st => ∃ gs gw v X', e = .returned (.tuple #[.pointer (some ⟨gs, 0, none⟩), .int .i64 0]) ∧ w.heap.size ≤ gs ∧ w.heap.size ≤ gw ∧ (∀ k, X k → X' k) ∧ (∀ k, X' k → X k ∨ w.heap.size ≤ k) ∧ DwS w0 X' g d' w' ∧ StoV w' X' g gs gw v st ∧ ∀ k, v.ownBlock = some k → w.heap.size ≤ k)
 ∧ DwS w0 X g d' w' ∧ Chg (Gx w0 X) w w'
theorem OpenedP.no {w0 w wi : World} {X Y : Nat → Prop} {g : Nat} {d' : Dk} {E : Int} (hE : E ≠ 0) (hY : ∀ k, X k → Y k) (hd : DwS w0 Y g d' wi) (hc : Chg (Gx w0 X) w wi) : OpenedP w0 w X g d' E none (.returned (.tuple #[.pointer none, .int .i64 E])) wi :=
 ⟨⟨hE, rfl⟩, hd.mono hY, hc⟩
set_option maxRecDepth 8000 in
set_option maxHeartbeats 8000000 in
theorem stoOpenNil (w : World) : Calls Tryz.prog 30 #[.pointer none] w fun e w' => e = .returned (.tuple #[.pointer none, .int .i64 1]) ∧ w = w' := by
 go_enter Tryz.func30, Tryz.ntmps30
 go_wp2_with fail
 refine (walOpenNil w).mono ?_
 rintro e w' ⟨rfl, rfl⟩
 go_wp2_with fail
 refine bodyPost_ret (v := .tuple #[.pointer none, .int .i64 1]) (by simp [results, Tryz.results30, go_sem]) rfl ?_
 exact ⟨rfl, rfl⟩
set_option maxRecDepth 8000 in
set_option maxHeartbeats 8000000 in
theorem stoOpen {w0 w : World} {X : Nat → Prop} {g : Nat} {d d' : Dk} (T0 : ∀ z, Below w0.heap.size w0 z → TabW z) (hd : DwS w0 X g d w) (hb0 : Below w0.heap.size w0 w) {m : Nat} (pi : PInv m d) (hm : m ≤ 300) {E : Int} {o : Option Sto} (he : openP d = (E, o, d')) :
 Calls Tryz.prog 30 #[.pointer (some ⟨g, 0, none⟩)] w (OpenedP w0 w X g d' E o) := by
 have hcall := walOpen T0 hd hb0 pi hm
 unfold OpenedW at hcall
 have pic := pi.clean
 have hXl : ∀ k, X k → k < w.heap.size := hd.2
 have hs0 := hb0.size
 have hop : openP d = match openW d with
  | none => ((cleanW d).1, none, (cleanW d).2)
  | some ws => match snapO (cleanW d).2 ws.h with
   | none => (4, none, (cleanW d).2)
   | some s => if (cleanP (cleanW d).2 ws.h.base.toNat).1 = 0 then (0, some ⟨ws, ofBytes s, false⟩, (cleanP (cleanW d).2 ws.h.base.toNat).2)
    else ((cleanP (cleanW d).2 ws.h.base.toNat).1, none, (cleanP (cleanW d).2 ws.h.base.toNat).2) := rfl
 rw [he] at hop
 have hbase := fun ws => open_base (d := d) (ws := ws)
 go_enter Tryz.func30, Tryz.ntmps30
 go_wp2_with fail
 refine hcall.mono ?_
 rintro e w1 ⟨ho, hd1, ch1⟩
 clear hcall he
 cases how : openW d with
 | none =>
  rw [how] at ho hop
  obtain ⟨E1, hE1, e1, rfl⟩ := ho
  dsimp only at hop
  rw [← e1] at hop
  simp only [Prod.mk.injEq] at hop
  obtain ⟨rfl, rfl, rfl⟩ := hop
  have hi : (E != 0) = true := by simpa using hE1
  have HE := Lib.hid hE1
  clear hE1 e1 how hbase
  go_wp2_with fail
  refine bodyPost_ret (v := .tuple #[.pointer none, .int .i64 E]) (by simp [results, Tryz.results30, go_sem]) rfl ?_
  exact OpenedP.no HE.out (fun _ h => h) hd1 ch1
 | some ws =>
  rw [how] at ho hop
  obtain ⟨gw, v, X1, rfl, hgw, hx1, hx1r, hdw, hwv, hvw⟩ := ho
  obtain ⟨hb1, hb2⟩ := hbase ws how
  clear how hbase hd1
  dsimp only at hop
  generalize (cleanW d).2 = d1 at *
  have Hop := Lib.hid hop
  have hHB1 := Lib.hid hb1
  have hHB2 := Lib.hid hb2
  clear hop hb1 hb2
  have hbW1 : Below w0.heap.size w0 w1 := hb0.trans (ch1.gx hs0)
  have hsW1 := ch1.size
  have hgl := hwv.blk.lt
  have caS := below_alloc w1 (.cells #[.pointer (some ⟨g, 0, none⟩), .pointer (some ⟨gw, 0, none⟩), .string ⟨#[]⟩, .bool false] 111)
  have ksS := Blk.new w1 #[.pointer (some ⟨g, 0, none⟩), .pointer (some ⟨gw, 0, none⟩), .string ⟨#[]⟩, .bool false] 111
  have hszS : (w1.alloc (.cells #[.pointer (some ⟨g, 0, none⟩), .pointer (some ⟨gw, 0, none⟩), .string ⟨#[]⟩, .bool false] 111)).heap.size = w1.heap.size + 1 := by simp
  have hwvS := hwv.ext caS
  have hcall : Calls Tryz.prog 21 #[.pointer (some ⟨gw, 0, none⟩)] (w1.alloc (.cells #[.pointer (some ⟨g, 0, none⟩), .pointer (some ⟨gw, 0, none⟩), .string ⟨#[]⟩, .bool false] 111)) fun e w' => ∃ v', e = .returned (.agg #[.int .i64 ws.h.term, .int .i64 ws.h.vote, .int .i64 ws.h.base, .int .i64 ws.h.bterm, .int .i64 ws.h.members, .string ⟨#[]⟩, v']) ∧ OwnR etyE w' (w1.alloc (.cells #[.pointer (some ⟨g, 0, none⟩), .pointer (some ⟨gw, 0, none⟩), .string ⟨#[]⟩, .bool false] 111)).heap.size 73 v' ws.h.log ∧ Below (w1.alloc (.cells #[.pointer (some ⟨g, 0, none⟩), .pointer (some ⟨gw, 0, none⟩), .string ⟨#[]⟩, .bool false] 111)).heap.size (w1.alloc (.cells #[.pointer (some ⟨g, 0, none⟩), .pointer (some ⟨gw, 0, none⟩), .string ⟨#[]⟩, .bool false] 111)) w' := walHard hwvS
  go_wp2_with fail
  refine hcall.mono ?_
  rintro e w3 ⟨v3, rfl, own3, b3⟩
  clear hcall
  obtain ⟨p3, c3, rfl⟩ := own3.rd.shape
  have caH := below_alloc w3 (.cells #[.int .i64 ws.h.term, .int .i64 ws.h.vote, .int .i64 ws.h.base, .int .i64 ws.h.bterm, .int .i64 ws.h.members, .string ⟨#[]⟩, .slice p3 ws.h.log.length c3] 24)
  have khH := Blk.new w3 #[.int .i64 ws.h.term, .int .i64 ws.h.vote, .int .i64 ws.h.base, .int .i64 ws.h.bterm, .int .i64 ws.h.members, .string ⟨#[]⟩, .slice p3 ws.h.log.length c3] 24
  have b3s := b3.size
  have hszH : (w3.alloc (.cells #[.int .i64 ws.h.term, .int .i64 ws.h.vote, .int .i64 ws.h.base, .int .i64 ws.h.bterm, .int .i64 ws.h.members, .string ⟨#[]⟩, .slice p3 ws.h.log.length c3] 24)).heap.size = w3.heap.size + 1 := by simp
  have bAll : Below w1.heap.size w1 (w3.alloc (.cells #[.int .i64 ws.h.term, .int .i64 ws.h.vote, .int .i64 ws.h.base, .int .i64 ws.h.bterm, .int .i64 ws.h.members, .string ⟨#[]⟩, .slice p3 ws.h.log.length c3] 24)) := (caS.trans (b3.mono (by omega))).trans (caH.mono (by omega))
  obtain ⟨X2, hX2⟩ : ∃ X2 : Nat → Prop, X2 = fun k => X1 k ∨ k = w1.heap.size ∨ k = w3.heap.size := ⟨_, rfl⟩
  have hx2 : ∀ k, X1 k → X2 k := fun k hk => by rw [hX2]; exact .inl hk
  have hx2S : X2 w1.heap.size := by rw [hX2]; exact .inr (.inl rfl)
  have hx2H : X2 w3.heap.size := by rw [hX2]; exact .inr (.inr rfl)
  have hx2r : ∀ k, X2 k → X k ∨ w.heap.size ≤ k := fun k hk => by
   rw [hX2] at hk
   rcases hk with hk | rfl | rfl
   · exact hx1r k hk
   · exact .inr hsW1
   · exact .inr (by omega)
  have hd3 : DwS w0 X2 g d1 (w3.alloc (.cells #[.int .i64 ws.h.term, .int .i64 ws.h.vote, .int .i64 ws.h.base, .int .i64 ws.h.bterm, .int .i64 ws.h.members, .string ⟨#[]⟩, .slice p3 ws.h.log.length c3] 24)) := by
   rw [hX2]
   refine hdw.more bAll (fun k hk => ?_)
   rcases hk with hk | rfl | rfl
   · exact .inl hk
   · exact .inr ⟨Nat.le_refl _, by omega⟩
   · exact .inr ⟨by omega, by omega⟩
  clear hX2
  have rd3 := own3.rd.ext caH
  have st3 : StoV (w3.alloc (.cells #[.int .i64 ws.h.term, .int .i64 ws.h.vote, .int .i64 ws.h.base, .int .i64 ws.h.bterm, .int .i64 ws.h.members, .string ⟨#[]⟩, .slice p3 ws.h.log.length c3] 24)) X2 g w1.heap.size gw v ⟨ws, ofBytes [], false⟩ := ⟨(ksS.ext b3).ext caH, ((hwvS.ext b3).ext caH).mono hx2, hx2S, by omega, fun e => by have := hwv.lX _ e; have := hdw.2 _ this; omega⟩
  have ch3 : Chg (Gx w0 X) w (w3.alloc (.cells #[.int .i64 ws.h.term, .int .i64 ws.h.vote, .int .i64 ws.h.base, .int .i64 ws.h.bterm, .int .i64 ws.h.members, .string ⟨#[]⟩, .slice p3 ws.h.log.length c3] 24)) := ch1.step (.of_below bAll)
  have hxX : ∀ k, X k → X2 k := fun k hk => hx2 k (hx1 k hk)
  have hHs : w.heap.size ≤ w1.heap.size := hsW1
  clear own3 caS ksS hwvS b3 caH hdw hwv ch1 bAll
  have q2 := khH.cell 2 _ rfl
  go_upto_if 29 with (fail)
  generalize w3.alloc (.cells #[.int .i64 ws.h.term, .int .i64 ws.h.vote, .int .i64 ws.h.base, .int .i64 ws.h.bterm, .int .i64 ws.h.members, .string ⟨#[]⟩, .slice p3 ws.h.log.length c3] 24) = wB at *
  go_cut [] from 8 (fun wi => ∃ s, Hid (snapO d1 ws.h = some s) ∧ StoV wi X2 g w1.heap.size gw v ⟨ws, ofBytes s, false⟩ ∧ Blk wi w3.heap.size #[.int .i64 ws.h.term, .int .i64 ws.h.vote, .int .i64 ws.h.base, .int .i64 ws.h.bterm, .int .i64 ws.h.members, .string ⟨#[]⟩, .slice p3 ws.h.log.length c3] 24 ∧ DwS w0 X2 g d1 wi ∧ Chg (Gx w0 X) w wi)
  case first =>
   by_cases hz : ws.h.base = 0
   · have hzi : (ws.h.base != 0) = false := by simp [hz]
     have hsn : snapO d1 ws.h = some [] := by unfold snapO; rw [if_pos hz]
     have Hsn := Lib.hid hsn
     clear hsn hz
     go_wp2_with fail
     go_meet
     exact ⟨[], Hsn, st3, khH, hd3, ch3⟩
   · have hzi : (ws.h.base != 0) = true := by simpa using hz
     have hsn : snapO d1 ws.h = readP (fileP d1 ws.h.base.toNat) ws.h := by unfold snapO; rw [if_neg hz]
     have Hsn := Lib.hid hsn
     have hn1 := hHB1.out
     have hn2 := hHB2.out
     have hbN : ws.h.base = (ws.h.base.toNat : Int) := by omega
     have hbN2 : ws.h.base.toNat ≤ 1099511627776 := by omega
     have hbn := Lib.hid hbN
     clear hsn hz hbN hn1 hn2
     go_wp2_with fail
     refine (stoNamed ws.h.base.toNat _ hbn.out (by omega) wB (T0 _ (hb0.trans (ch3.gx hs0)))).mono ?_
     rintro e w4 ⟨rfl, b4⟩
     go_wp2_with fail
     refine (lRead (hd3.ext b4) (pic.ok (by omega)) (nameP ws.h.base.toNat) rfl).mono ?_
     rintro e w5 ⟨⟨r5, rfl, own5⟩, b5⟩
     have b45 := b4.trans (b5.mono b4.size)
     have hfw : fileP d1 ws.h.base.toNat = (readD d1 (nameP ws.h.base.toNat)).getD [] := rfl
     rw [← hfw] at own5
     have hfl : (fileP d1 ws.h.base.toNat).length ≤ 4194304 := by
      rw [hfw, read_getF]
      cases hg : getF d1.fs (nameP ws.h.base.toNat) with
      | none => simp
      | some f =>
       obtain ⟨j, hj, _, e1, _⟩ := get_at hg
       have h1 := totD_mem (e1 ▸ List.getElem_mem hj : f ∈ d1.fs)
       have h2 := pic.l.tot
       show f.data.length ≤ _
       omega
     clear hfw
     generalize fileP d1 ws.h.base.toNat = FB at *
     generalize (readD d1 (nameP ws.h.base.toNat)).isSome = qb at *
     have kh5 := khH.ext b45
     have y0 := kh5.cell 0 _ rfl
     have y1 := kh5.cell 1 _ rfl
     have y2 := kh5.cell 2 _ rfl
     have y3 := kh5.cell 3 _ rfl
     have y4 := kh5.cell 4 _ rfl
     have y5 := kh5.cell 5 _ rfl
     have y6 := kh5.cell 6 _ rfl
     have hrd := stoRead r5 FB (bareOf ws.h) (.slice p3 ws.h.log.length c3) w5 own5.bytes (by omega) (rd3.ext b45)
     have hrp : readP FB (bareOf ws.h) = snapO d1 ws.h := Hsn.out.symm
     rw [hrp] at hrd
     have Hrd := Lib.hid hrd
     clear hrp hrd Hsn
     go_wp2_with fail
     refine Hrd.out.mono ?_
     rintro e w6 ⟨hr, b6⟩
     have b46 := b45.trans (b6.mono b45.size)
     have st6 := st3.ext b46
     have kh6 := khH.ext b46
     have hd6 := hd3.ext b46
     have ch6 : Chg (Gx w0 X) w w6 := ch3.step (.of_below b46)
     clear Hrd own5 kh5 y0 y1 y2 y3 y4 y5 y6 b4 b5 b45 b46 b6 st3 khH hd3 ch3
     cases hso : snapO d1 ws.h with
     | none =>
      rw [hso] at hr
      obtain rfl := hr
      have hh := Hop.out
      rw [hso] at hh
      simp only [Prod.mk.injEq] at hh
      obtain ⟨rfl, rfl, rfl⟩ := hh
      clear hso
      go_wp2_with fail
      refine bodyPost_ret (v := .tuple #[.pointer none, .int .i64 4]) (by simp [results, Tryz.results30, go_sem]) rfl ?_
      exact OpenedP.no (by decide) hxX hd6 ch6
     | some s =>
      rw [hso] at hr
      obtain rfl := hr
      have Hso := Lib.hid hso
      clear hso
      have f2 := st6.blk.frozen 2
      have z2 := st6.c2
      go_wp2_with fail
      go_meet
      have cS := chg_cell w1.heap.size 2 (.string (ofBytes s)) w6
      have ksC := st6.blk.set 2 (.string (ofBytes s))
      have stC : StoV (w6.setCell ⟨w1.heap.size, 2, none⟩ (.string (ofBytes s))) X2 g w1.heap.size gw v ⟨ws, ofBytes s, false⟩ := by
       refine ⟨ksC, st6.wv.only2 cS (fun e => st6.ne e.symm) (fun k hk e => st6.off (by rw [hk, e])), st6.inX, st6.ne, st6.off⟩
      exact ⟨s, Hso, stC, cS.blk kh6 (by omega), hd6.chgX cS (fun k hk => .inl (by subst hk; exact hx2S)), ch6.step (cS.mono fun k hk e => by subst e; exact ⟨by omega, fun hx => by have := hXl _ hx; omega⟩)⟩
  case rest =>
  obtain ⟨s, Hs, st7, kh7, hd7, ch7⟩ := hcut
  obtain ⟨w7, hw7⟩ : ∃ z, z = wc := ⟨_, rfl⟩
  subst hw7
  clear st3 khH hd3 ch3 q2 rd3
  have q2 := kh7.cell 2 _ rfl
  obtain ⟨E2, d2, hcl⟩ : ∃ E2 d2, cleanP d1 ws.h.base.toNat = (E2, d2) := ⟨_, _, rfl⟩
  have hh := Hop.out
  rw [Hs.out, hcl] at hh
  dsimp only at hh
  have hn1 := hHB1.out
  have hn2 := hHB2.out
  have hbN : ws.h.base = (ws.h.base.toNat : Int) := by omega
  have hcall := stoClean T0 hd7 (hb0.trans (ch7.gx hs0)) pic (by omega) ws.h.base.toNat ws.h.base hbN (by omega) hcl
  clear hbN hn1 hn2 Hop
  have Hh := Lib.hid hh
  clear hh
  go_wp2_with fail
  refine hcall.mono ?_
  rintro e w8 ⟨rfl, hd8, ch8⟩
  have st8 := st7.keep ch8
  have ch08 : Chg (Gx w0 X) w w8 := ch7.step (ch8.mono fun k _ q => ⟨q.1, fun hx => q.2 (hxX k hx)⟩)
  have hh := Hh.out
  by_cases hE : E2 = 0
  · subst hE
    rw [if_pos rfl] at hh
    simp only [Prod.mk.injEq] at hh
    obtain ⟨rfl, rfl, rfl⟩ := hh
    go_wp2_with fail
    refine bodyPost_ret (v := .tuple #[.pointer (some ⟨w1.heap.size, 0, none⟩), .int .i64 0]) (by simp [results, Tryz.results30, go_sem]) rfl ?_
    exact ⟨⟨w1.heap.size, gw, v, X2, rfl, hHs, hgw, hxX, hx2r, hd8, st8, hvw⟩, hd8.mono hxX, ch08⟩
  · have hi : (E2 != 0) = true := by simpa using hE
    rw [if_neg hE] at hh
    simp only [Prod.mk.injEq] at hh
    obtain ⟨rfl, rfl, rfl⟩ := hh
    have HE := Lib.hid hE
    clear hE
    go_wp2_with fail
    refine bodyPost_ret (v := .tuple #[.pointer none, .int .i64 E]) (by simp [results, Tryz.results30, go_sem]) rfl ?_
    exact OpenedP.no HE.out hxX hd8 ch08
end Go.Proofs.YtgpgcnmnfnnkjaaGreatDoor
end
