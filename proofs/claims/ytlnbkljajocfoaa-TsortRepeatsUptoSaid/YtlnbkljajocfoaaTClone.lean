/- slices.Clone lays a row of numbers anew; the row is not empty and has at most 2^30 numbers. -/
import Derived.Test.YtlnbkljajocfoaaTReverse
import Derived.Lib.SliceRun
namespace Go.Proofs.Ytlnbkljajocfoaa.TClone
open Go Go.RowKit Topo TWords TSlices TReverse

theorem int_info : (Try.prog.info? 3).map (fun i => (i.zero, i.size, i.bytes)) = some (some (.int .i64 0), 1, 8) := by kernel_rfl
def icells (xs : List Nat) : List Value := xs.map fun x => .int .i64 (x : Nat)
theorem icells_length (xs : List Nat) : (icells xs).length = xs.length := by simp [icells]
theorem icells_append (a b : List Nat) : icells (a ++ b) = icells a ++ icells b := by simp [icells]
theorem icells_one (xs : List Nat) : ∀ u ∈ icells xs, u.oneCell' = true := by
  intro u hu
  obtain ⟨b, _, rfl⟩ := List.mem_map.1 hu
  rfl
theorem RowAt.news {w : World} {b off : Nat} {xs : List Nat} (h : RowAt w b off xs) : ∀ (j : Nat) u, (icells xs)[j]? = some u → w.cell? ((⟨b, off, none⟩ : Addr).add j) = some u := by
  intro j u hu
  have hadd : (⟨b, off, none⟩ : Addr).add j = ⟨b, off + j, none⟩ := by unfold Addr.add; split <;> simp_all
  rw [hadd]
  simp only [icells, List.getElem?_map, Option.map_eq_some_iff] at hu
  obtain ⟨x, hx, rfl⟩ := hu
  exact (h j x hx).1

set_option maxHeartbeats 2000000 in
set_option maxRecDepth 100000 in
theorem clone_any (b off c : Nat) (xs : List Nat) (w : World) (h : RowAt w b off xs) (hb : b < w.heap.size) (hn : 1 ≤ xs.length) (hn2 : xs.length ≤ 1073741824) (hc : xs.length ≤ c ∧ c ≤ maxLen) :
    Calls Try.prog 41 #[.slice (some ⟨b, off, none⟩) xs.length c] w
      fun e w' => ∃ g cap, e = .returned (.slice (some ⟨g, 0, none⟩) xs.length cap) ∧ w'.ownsRow w.heap.size 3 1 (.slice (some ⟨g, 0, none⟩) xs.length cap) xs.length (icells xs) ∧ Below w.heap.size w w' := by
  obtain ⟨i0, hi, hz0, hz1, hz2⟩ := info_parts int_info
  have hc2 : c ≤ 9223372036854775807 := hc.2
  have hc1 := hc.1
  have hnews := RowAt.news (w := w.alloc (.cells #[] 3)) (xs := xs) (b := b) (off := off) fun j x hx => by
    obtain ⟨k0, kf⟩ := h j x hx
    refine ⟨(World.cell?_of_block (Below.heap_alloc w _ b hb)).trans k0, ?_⟩
    rw [← kf]
    simp only [World.frozen?]
    rw [Below.heap_alloc w _ b hb]
  have hown : (w.alloc (.cells #[] 3)).ownsRow w.heap.size 3 1 (.slice (some ⟨w.heap.size, 0, none⟩) 0 0) 0 [] :=
    ⟨rfl, .inr ⟨w.heap.size, 0, #[], rfl, Nat.le_refl _, heap_alloc_new w _, Nat.le_refl _, by unfold maxLen; omega, rfl, rfl⟩⟩
  have heq : ∀ W, (binOp .eql 51 (.slice (some ⟨b, off, none⟩) xs.length c) (.slice none 0 0)).run Try.prog W = .ok (.bool false) W := fun W => Lib.run_eql_slice_nil W 51 3 _ _ _ _ _ Try.underlying51
  go_enter Try.func41, Try.ntmps41
  go_wp2_with (at_builtin
               refine wpList_append_lies _ rfl _ _ _ rfl w.heap.size 3 i0 _ 1 8 Try.underlying51 hi hz0 hz1 hz2 rfl (by omega) _ 0 [] rfl hown ⟨b, off, none⟩ xs.length c (icells xs) rfl (by simp [icells]) hnews (icells_one xs) (by omega) (by unfold maxLen; omega) (by omega) (by simp) (w.heap.size + 1) (by simp) ?_
               intro gg cap w1 hown1 hgrow hat hlt1)
  go_ret
  have e0 : (0 : Nat) + xs.length = xs.length := Nat.zero_add _
  rw [e0] at hown1
  refine ⟨gg, cap, by simp, by simpa using hown1, ((Below.refl _ _).alloc (Nat.le_refl _) _).grown hgrow (by simp) (fun k hk => Nat.le_of_eq (Option.some.inj hk))⟩
end Go.Proofs.Ytlnbkljajocfoaa.TClone
