/- The walk of TsortSorts: the program's Sort and the reference's return the same order and cycles. -/
import Derived.Test.YtlnbkljajocfoaaTAwake
import Derived.Test.YtlnbkljajocfoaaTRefSort
import Derived.Test.YtlnbkljajocfoaaTSame
import Derived.Test.YtlnbkljajocfoaaTBulk
namespace Go.Proofs.Ytlnbkljajocfoaa.TsortSortsWalk
open Go Go.RowKit Topo Strs TPairs TRead TOut TAwake TSame TBulk

/-- what both sorts return -/
theorem same_post {w1 w2 : World} {ps : List (Str × Str)} {e1 e2 : Ending} {W1 W2 : World} (h1 : SPost w1 ps e1 W1) (h2 : SPost w2 ps e2 W2) :
    ∃ v2 v3 u2 u3 os cs, e1 = .returned (.tuple #[v2, v3]) ∧ e2 = .returned (.tuple #[u2, u3]) ∧ Strs W1 v2 os ∧ Lists W1 v3 cs ∧ Strs W2 u2 os ∧ Lists W2 u3 cs := by
  obtain ⟨v2, v3, K, he, -, hK, hmin, hs, hl, -⟩ := h1
  obtain ⟨u2, u3, K', he', -, hK', hmin', hs', hl', -⟩ := h2
  have : K = K' := by
    rcases Nat.lt_trichotomy K K' with h | h | h
    · have := hmin' K h; omega
    · exact h
    · have := hmin K' h; omega
  subst this
  exact ⟨v2, v3, u2, u3, _, _, he, he', hs, hl, hs', hl'⟩
theorem SPost.below {w w' : World} {ps : List (Str × Str)} {e : Ending} (h : SPost w ps e w') : Below w.heap.size w w' := by
  obtain ⟨v2, v3, K, he, -, hK, hmin, hs, hl, hb⟩ := h
  exact hb
theorem SPost.form {w w' : World} {ps : List (Str × Str)} {e : Ending} (h : SPost w ps e w') : ∃ v2 v3, e = .returned (.tuple #[v2, v3]) := by
  obtain ⟨v2, v3, K, he, -⟩ := h
  exact ⟨v2, v3, he⟩
set_option maxHeartbeats 1000000 in
theorem walk (v : Value) (ps : List (Str × Str)) (w : World) (hv : Prs w v ps) (hu : ptotal ps ≤ 1048576) :
    Calls Try.prog 4 #[v] w fun e w' => e = .returned (.bool true) ∧ Below w.heap.size w w' := by
  have hf := ptotal_facts ps
  have HA := Lib.hid (fun W => awake_any W)
  have H1 := Lib.hid (TSort.sort_any v ps w hv (by omega) (fun p hp => by have := hf.2 p hp; omega))
  have H2 := Lib.hid (fun W (h : Prs W v ps) => TRefSort.sort_any v ps W h (by omega))
  have HV := Lib.hid hv
  clear hv hf
  go_enter Try.func4, Try.ntmps4
  go_wp2_with (first
    | (go_at_call 12
       (with_reducible refine H1.out.mono ?_)
       rintro e w1 hp1
       obtain ⟨v2, v3, rfl⟩ := SPost.form hp1
       have hb1 := SPost.below hp1)
    | (go_at_call 13
       (with_reducible refine (H2.out _ (HV.out.below hb1)).mono ?_)
       rintro e w2 hp2
       obtain ⟨u2, u3, rfl⟩ := SPost.form hp2
       have hb2 := SPost.below hp2
       obtain ⟨_, _, _, _, os, cs, he1, he2, hs1, hl1, hs2, hl2⟩ := same_post hp1 hp2
       injection he1 with he1
       injection he1 with he1
       injection he2 with he2
       injection he2 with he2
       simp only [Array.mk.injEq, List.cons.injEq, and_true] at he1 he2
       obtain ⟨rfl, rfl⟩ := he1
       obtain ⟨rfl, rfl⟩ := he2
       have HS := Lib.hid (same_any _ _ os os w2 (hs1.below hb2) hs2)
       have HC := Lib.hid (fun n => cycles_any _ _ cs cs (w2.drewN n) ((hl1.below hb2).below (Base.below_drewN (Below.refl _ _) n)) (hl2.below (Base.below_drewN (Below.refl _ _) n)))
       have hd1 : decide (os = os) = true := by simp
       have hd2 : decide (cs = cs) = true := by simp
       rw [hd1] at HS
       rw [hd2] at HC
       clear hp1 hp2 hs1 hs2 hl1 hl2)
    | (go_at_call 14
       (with_reducible refine HS.out.mono ?_)
       rintro e w3 ⟨rfl, n, rfl⟩)
    | (go_at_call 15
       (with_reducible refine (HC.out _).mono ?_)
       rintro e w4 ⟨rfl, n2, rfl⟩)
    | (go_at_call 11
       (with_reducible refine (HA.out _).mono ?_)
       rintro e w5 ⟨rfl, hb5⟩))
  go_ret
  exact ⟨rfl, (hb1.trans (hb2.mono hb1.size)).trans ((Base.below_drewN (Below.refl w.heap.size w2) (n + n2)).trans (hb5.mono (Nat.le_trans hb1.size hb2.size)))⟩
end Go.Proofs.Ytlnbkljajocfoaa.TsortSortsWalk
