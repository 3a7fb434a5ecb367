/- What the bound on the bulk of the arguments gives for strings and slices of strings. No condition. -/
import Derived.Test.YtlnbkljajocfoaaRows
import Derived.Test.YtlnbkljajocfoaaStrs
import Derived.Test.YtlnbkljajocfoaaEncMath
import Derived.SliceStrings
import Derived.WalkKit
import Derived.ProofKit
namespace Go.Proofs.Ytlnbkljajocfoaa.Bulk
open Crc (total total_cons total_append length_le_total)
open Go Go.ChangeShapes Go.WideShapes Go.ChangeAt Go.RowKit
theorem all {H : Type} {ds : List (DataW H)} (h : Rows.uptoSmall H ds = true) : Rows.uptoBulkAll ds ≤ 1048576 := of_decide_eq_true h
theorem member {H : Type} {d : DataW H} : ∀ {l : List (DataW H)}, d ∈ l → Rows.uptoBulk d ≤ Rows.uptoBulkAll l
  | x :: r, h => by
    simp only [Rows.uptoBulkAll]
    rcases List.mem_cons.1 h with rfl | h
    · omega
    · have := member h; omega
theorem str {H : Type} {ds : List (DataW H)} {s : ByteArray} (h : Rows.uptoSmall H ds = true) (hm : DataW.lit (.string s.data.toList) ∈ ds) : s.size ≤ 1048576 := by
  have h1 := all h
  have h2 := member hm
  have h3 : Rows.uptoBulk (DataW.lit (H := H) (.string s.data.toList)) = s.data.toList.length + 1 := by simp [Rows.uptoBulk]
  have h4 : s.data.toList.length = s.size := by simp
  omega
theorem strs_bulk {H : Type} : ∀ (ss : List ByteArray), Rows.uptoBulkAll (strs (H := H) ss) = total (ss.map fun s => s.data.toList)
  | [] => by simp [strs, Rows.uptoBulkAll, total]
  | s :: ss => by
    have ih := strs_bulk (H := H) ss
    simp only [strs, List.map_cons, Rows.uptoBulkAll, total_cons, Rows.uptoBulk] at ih ⊢
    omega
/-- a slice of strings that came in: what it reads as, and its bulk -/
theorem of_trod {H : Type} {enc : TypeId × Value → H} {W : World} {a : Option Addr} {len cap : Nat} {d : DataW H} {p : List MemPlace}
    (h : DataW.Trod enc Try.prog W 0 (fun _ => true) true 30 (.slice a len cap) d p) : ∃ ls, Strs.Strs W (.slice a len cap) ls ∧ total ls + 1 ≤ Rows.uptoBulk d := by
  obtain ⟨fuel, hf⟩ := h
  rcases open_strings Try.underlying30 Try.underlying9 (by kernel_rfl) hf with ⟨hcs, hx⟩ | ⟨x, l, c, ss, hcs, _, hl, hm, hz, hx, hcell, hws⟩
  · simp [Value.cells] at hcs
    obtain ⟨rfl, rfl, rfl⟩ := hcs
    simp only [Prod.mk.injEq] at hx
    obtain ⟨rfl, _⟩ := hx
    exact ⟨[], Strs.Strs.nil W, by simp [total, Rows.uptoBulk]⟩
  · simp [Value.cells] at hcs
    obtain ⟨rfl, rfl, rfl⟩ := hcs
    simp only [Prod.mk.injEq] at hx
    obtain ⟨rfl, _⟩ := hx
    have hz' : ss.length = cap := by simpa using hz
    have hlen : ((ss.take len).map fun s => s.data.toList).length = len := by simp; omega
    refine ⟨(ss.take len).map fun s => s.data.toList, ⟨some x, cap, by rw [hlen], ⟨by omega, hm⟩, fun hne => ?_⟩, ?_⟩
    · have hpos : 0 < len := by
        rcases Nat.eq_zero_or_pos len with h0 | h0
        · subst h0; simp at hne
        · exact h0
      obtain ⟨b, off, spot⟩ := x
      have h0 := hcell 0 (by omega)
      have hspot : spot = none := by simpa [Addr.add] using World.cell?_spot h0
      subst hspot
      refine ⟨b, off, rfl, fun j y hj => ?_⟩
      have hjl : j < len := by
        have := (List.getElem?_eq_some_iff.1 hj).1
        omega
      have hc := hcell j (by omega)
      have hadd : (⟨b, off, none⟩ : Addr).add j = ⟨b, off + j, none⟩ := by unfold Addr.add; split <;> simp_all
      rw [hadd] at hc
      rw [hc]
      rw [List.getElem?_map, List.getElem?_take, if_pos hjl, List.getElem?_eq_getElem (by omega)] at hj
      simp only [Option.map_some, Option.some.injEq] at hj
      subst hj
      rw [List.getD_eq_getElem?_getD, List.getElem?_eq_getElem (by omega)]
      simp
    · simp only [Rows.uptoBulk, strs_bulk]
      omega
theorem strs_le {H : Type} {ds : List (DataW H)} {d : DataW H} {ls : List (List UInt8)} (h : Rows.uptoSmall H ds = true) (hm : d ∈ ds) (hl : total ls + 1 ≤ Rows.uptoBulk d) : total ls ≤ 1048576 := by
  have h1 := all h
  have h2 := member hm
  omega
end Go.Proofs.Ytlnbkljajocfoaa.Bulk
