/- From the reading of a formula to a formula in frozen memory. -/
import Derived.Test.YthhgenogeibfpaaGreatDoorLgData
import Derived.Test.YthhgenogeibfpaaGreatDoorDC
import Derived.Test.YthhgenogeibfpaaGreatDoorRows
set_option linter.unusedVariables false
set_option linter.unusedSimpArgs false
namespace Go.Proofs.YthhgenogeibfpaaGreatDoor.D
open Go.Det
open Go.ChangeShapes Go.WideShapes Go.ChangeAt Go.RowKit

theorem list_of {H : Type} : ∀ (E : List (DataW H)) (Q : Nat → Fm → Prop), (∀ i d, E[i]? = some d → ∃ f, f.size ≤ Rows.uptoBulk d ∧ Q i f) →
    ∃ l : List Fm, l.length = E.length ∧ sizeL l ≤ Rows.uptoBulkAll E ∧ ∀ i f, l[i]? = some f → Q i f
  | [], Q, _ => ⟨[], rfl, Nat.le_refl _, fun i f h => by simp at h⟩
  | d :: E, Q, h => by
    obtain ⟨f, h1, h2⟩ := h 0 d rfl
    obtain ⟨l, l1, l2, l3⟩ := list_of E (fun i f => Q (i + 1) f) (fun i d hd => h (i + 1) d (by simpa using hd))
    refine ⟨f :: l, by simp [l1], by simp only [sizeL, Rows.uptoBulkAll]; omega, fun i g hg => ?_⟩
    cases i with
    | zero => simp at hg; subst hg; exact h2
    | succ i => exact l3 i g (by simpa using hg)
theorem cellsL_get : ∀ (l : List Fm) (i j : Nat), j < 4 → (cellsL l)[i * 4 + j]? = (l[i]?).bind fun f => f.cells[j]?
  | [], i, j, _ => by simp [cellsL]
  | f :: l, 0, j, h => by
    simp only [cellsL, Nat.zero_mul, Nat.zero_add]
    rw [List.getElem?_append_left (by rw [cells_len]; exact h)]
    simp
  | f :: l, i + 1, j, h => by
    simp only [cellsL]
    rw [List.getElem?_append_right (by rw [cells_len]; omega), cells_len, show (i + 1) * 4 + j - 4 = i * 4 + j by omega, cellsL_get l i j h]
    simp
theorem addr_plain {w : World} {a : Addr} {v : Value} (h : w.cell? a = some v) : a = ⟨a.block, a.off, none⟩ := by
  unfold World.cell? at h
  split at h
  · split at h
    · cases h
    · rename_i hs
      cases a with
      | mk b o s => cases s with
        | none => rfl
        | some s => simp at hs
  · cases h
theorem add_add {b o i j : Nat} : ((⟨b, o, none⟩ : Addr).add i).add j = ⟨b, o + (i + j), none⟩ := by
  unfold Addr.add
  split <;> split <;> simp <;> omega
theorem cells28 : Tryz.prog.cellsOf 28 = 4 := by kernel_rfl
theorem cells3 : Tryz.prog.cellsOf 3 = 1 := by kernel_rfl
theorem cells9 : Tryz.prog.cellsOf 9 = 1 := by kernel_rfl
theorem cells26 : Tryz.prog.cellsOf 26 = 1 := by kernel_rfl
set_option maxRecDepth 100000 in
theorem fm_of {H : Type} {enc : TypeId × Value → H} {W : World} {base : Nat} {held : Bool} : ∀ (n : Nat) (cs : List Value) (d : DataW H) (ps : List MemPlace), DataW.trod enc Tryz.prog W base (fun _ => true) held n 28 cs = some (d, ps) →
    ∃ f : Fm, f.size ≤ Rows.uptoBulk d ∧ cs.length = 4 ∧ (∀ i, i < 4 → (cs.getD i undef).oneCell' = true) ∧ ∀ i c, f.cells[i]? = some c → VR (memOf W) c (cs.getD i undef)
  | 0, cs, d, ps, h => by simp [DataW.trod] at h
  | n + 1, cs, d, ps, h => by
    obtain ⟨xs, n', hn, hx, hl, hxl, hf⟩ := DataW.trod_struct Tryz.underlying28 h
    injection hn with hn; subst hn
    rw [cells28] at hl
    obtain ⟨c0, c1, c2, c3, rfl⟩ : ∃ c0 c1 c2 c3, cs = [c0, c1, c2, c3] := by
      match cs, hl with
      | [c0, c1, c2, c3], _ => exact ⟨_, _, _, _, rfl⟩
    obtain ⟨y0, y1, y2, y3, rfl⟩ : ∃ y0 y1 y2 y3, xs = [y0, y1, y2, y3] := by
      match xs, hxl with
      | [y0, y1, y2, y3], _ => exact ⟨_, _, _, _, rfl⟩
    have h0 := hf 0 _ rfl
    have h1 := hf 1 _ rfl
    have h2 := hf 2 _ rfl
    have h3 := hf 3 _ rfl
    simp only [cells3, cells9, cells26, List.drop_zero, List.drop_succ_cons, List.take_succ_cons, List.take_zero, List.getElem?_cons_zero, List.getElem?_cons_succ] at h0 h1 h2 h3
    obtain ⟨a, e0, rfl, _⟩ := DataW.trod_int Tryz.underlying3 h0
    obtain ⟨b, e1, rfl, _⟩ := DataW.trod_int Tryz.underlying3 h1
    obtain ⟨s, e2, rfl, _⟩ := DataW.trod_string Tryz.underlying9 h2
    injection e0 with e0; injection e1 with e1; injection e2 with e2
    subst e0; subst e1; subst e2
    injection hx with hx _
    subst hx
    have fin : ∀ (z : Option Bool) (l : List Fm), VR (memOf W) (slF z l.length (cellsL l)) c3 → c3.oneCell' = true → sizeL l + 1 ≤ Rows.uptoBulk y3.1 →
        ∃ f : Fm, f.size ≤ Rows.uptoBulk (DataW.agg (H := H) ([(DataW.lit (.int .i64 a), []), (DataW.lit (.int .i64 b), []), (DataW.lit (.string s.data.toList), []), y3].map (·.1))) ∧ [Value.int .i64 a, .int .i64 b, .string s, c3].length = 4 ∧
          (∀ i, i < 4 → ([Value.int .i64 a, .int .i64 b, .string s, c3].getD i undef).oneCell' = true) ∧ ∀ i c, f.cells[i]? = some c → VR (memOf W) c ([Value.int .i64 a, .int .i64 b, .string s, c3].getD i undef) := by
      intro z l hv ho hb
      refine ⟨.mk a b s.data.toList z l, ?_, rfl, ?_, ?_⟩
      · simp only [Fm.size, List.map_cons, List.map_nil, Rows.uptoBulk, Rows.uptoBulkAll]; omega
      · intro i hi
        match i, hi with
        | 0, _ => rfl
        | 1, _ => rfl
        | 2, _ => rfl
        | 3, _ => exact ho
      · intro i c hc
        match i, hc with
        | 0, hc => simp [Fm.cells] at hc; subst hc; exact .int _ _
        | 1, hc => simp [Fm.cells] at hc; subst hc; exact .int _ _
        | 2, hc => simp [Fm.cells] at hc; subst hc; exact .str s
        | 3, hc => simp [Fm.cells] at hc; subst hc; exact hv
        | i + 4, hc => simp [Fm.cells] at hc
    rcases DataW.trod_slice Tryz.underlying26 h3 with ⟨e3, e4⟩ | ⟨ad, len, cap, elems, rest, n', hn, e3, e4, hbase, hlc, hcm, hel, hes, hsp, _⟩
    · injection e3 with e3; subst e3
      exact fin none [] .nilSl rfl (by rw [e4]; simp [sizeL, Rows.uptoBulk])
    · injection e3 with e3; subst e3
      subst hn
      rw [cells28] at hes hsp
      obtain ⟨hrl, hrs⟩ := hsp rfl
      -- what each place holds
      have key : ∀ i (y : DataW H × List MemPlace), elems[i]? = some y → ∃ cs', W.cells? base (ad.add (i * 4)) 4 = some cs' ∧ DataW.trod enc Tryz.prog W base (fun _ => true) held n' 28 cs' = some y := by
        intro i y hy
        have hi : i < len := by rw [← hel]; exact (List.getElem?_eq_some_iff.1 hy).1
        have := hes i hi
        rw [hy] at this
        exact Option.bind_eq_some_iff.1 this
      have first : ∀ (m : Nat) (cs' : List Value), W.cells? base (ad.add (m * 4)) 4 = some cs' → m = 0 → ad = ⟨ad.block, ad.off, none⟩ := by
        intro m cs' h1 hm
        obtain ⟨_, hlen, hg⟩ := World.cells?_some h1
        have h0 := hg 0 (by omega)
        have e : (ad.add (m * 4)).add 0 = ad := by subst hm; simp [Addr.add]
        rw [e, List.getElem?_eq_getElem (by omega)] at h0
        exact addr_plain h0
      by_cases hc0 : cap = 0
      · have hl0 : len = 0 := by omega
        subst hc0; subst hl0
        exact fin (some false) [] (.slE false ad) rfl (by rw [e4]; simp only [sizeL, Rows.uptoBulk]; omega)
      · have hplain : ad = ⟨ad.block, ad.off, none⟩ := by
          by_cases hl0 : 0 < len
          · obtain ⟨cs', h1, _⟩ := key 0 _ (List.getElem?_eq_getElem (by omega))
            exact first 0 cs' h1 rfl
          · have := hrs 0 (by omega)
            rw [List.getElem?_eq_getElem (by omega)] at this
            obtain ⟨cs', h1, _⟩ := Option.bind_eq_some_iff.1 this
            exact first _ cs' h1 (by omega)
        obtain ⟨l, l1, l2, l3⟩ := list_of (elems.map (·.1)) (fun i f => ∃ cs', W.cells? base (ad.add (i * 4)) 4 = some cs' ∧ cs'.length = 4 ∧ (∀ j, j < 4 → (cs'.getD j undef).oneCell' = true) ∧ ∀ j c, f.cells[j]? = some c → VR (memOf W) c (cs'.getD j undef)) (by
          intro i d hd
          simp only [List.getElem?_map, Option.map_eq_some_iff] at hd
          obtain ⟨y, hy, rfl⟩ := hd
          obtain ⟨cs', h1, h2⟩ := key i y hy
          obtain ⟨f, f1, f2, f3, f4⟩ := fm_of n' cs' y.1 y.2 h2
          exact ⟨f, f1, cs', h1, f2, f3, f4⟩)
        rw [List.length_map] at l1
        have hll : l.length = len := by omega
        generalize hb : ad.block = B at hplain
        generalize ho : ad.off = O at hplain
        subst hplain
        have get : ∀ k, k < len * 4 → ∃ f v, l[k / 4]? = some f ∧ W.cell? ⟨B, O + k, none⟩ = some v ∧ v.oneCell' = true ∧ ∀ c, f.cells[k % 4]? = some c → VR (memOf W) c v := by
          intro k hk
          have hk4 : k / 4 < l.length := by omega
          obtain ⟨cs', h1, h2, h3, h4⟩ := l3 (k / 4) _ (List.getElem?_eq_getElem hk4)
          obtain ⟨_, _, hg⟩ := World.cells?_some h1
          have hj : k % 4 < 4 := Nat.mod_lt _ (by omega)
          have := hg (k % 4) hj
          rw [add_add, show k / 4 * 4 + k % 4 = k by omega, List.getElem?_eq_getElem (by omega)] at this
          have e : cs'.getD (k % 4) undef = cs'[k % 4]'(by omega) := by simp [List.getD, List.getElem?_eq_getElem (show k % 4 < cs'.length by omega)]
          exact ⟨_, _, List.getElem?_eq_getElem hk4, this, by rw [← e]; exact h3 _ hj, fun c hc => by rw [← e]; exact h4 _ c hc⟩
        have hcl := cellsL_len l
        refine fin (some false) l ?_ rfl (by rw [e4]; simp only [Rows.uptoBulk]; omega)
        show VR (memOf W) (.sl false l.length (cellsL l)) (.slice (some ⟨B, O, none⟩) len cap)
        rw [hll]
        refine .sl false len (cellsL l) B O cap (fun k => (W.cell? ⟨B, O + k, none⟩).getD undef) (fun k hk => ?_) (fun k c hc => ?_) (fun h => nomatch h) hlc
        · obtain ⟨f, v, g1, g2, g3, _⟩ := get k (by omega)
          rw [g2]; exact memOf_cell g2 g3
        · have hk : k < len * 4 := by
            have := (List.getElem?_eq_some_iff.1 hc).1
            omega
          obtain ⟨f, v, g1, g2, g3, g4⟩ := get k hk
          have e := cellsL_get l (k / 4) (k % 4) (Nat.mod_lt _ (by omega))
          rw [show k / 4 * 4 + k % 4 = k by omega, hc, g1] at e
          rw [g2]
          exact g4 c e.symm
end Go.Proofs.YthhgenogeibfpaaGreatDoor.D
