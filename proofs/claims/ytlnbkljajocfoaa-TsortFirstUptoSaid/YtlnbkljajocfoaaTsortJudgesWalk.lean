/- The walk of TsortJudges: the program's Valid and the reference's say the same. -/
import Derived.Test.YtlnbkljajocfoaaTAwake
import Derived.Test.YtlnbkljajocfoaaTJudge
import Derived.Test.YtlnbkljajocfoaaTBulk
namespace Go.Proofs.Ytlnbkljajocfoaa.TsortJudgesWalk
open Go Go.RowKit Topo Strs TPairs TRead TOut TAwake TBulk TValid TRefValid TJudge

theorem total_le : ∀ (ls : List Str), ∀ s ∈ ls, s.length ≤ Crc.total ls
  | [], s, h => by cases h
  | x :: ls, s, h => by
    rw [Crc.total_cons]
    rcases List.mem_cons.1 h with e | e
    · subst e; omega
    · have := total_le ls s e; omega
set_option maxHeartbeats 1000000 in
theorem walk (v : Value) (ps : List (Str × Str)) (vo : Value) (order : List Str) (w : World) (hv : Prs w v ps) (ho : Strs w vo order) (hu : ptotal ps ≤ 1048576) (hu2 : Crc.total order ≤ 1048576) :
    Calls Try.prog 5 #[v, vo] w fun e w' => e = .returned (.bool true) ∧ Below w.heap.size w w' := by
  have hf := ptotal_facts ps
  have hs := fun p hp => hf.2 p hp
  have ht := total_le order
  have HA := Lib.hid (fun W => awake_any W)
  obtain ⟨b, hb⟩ : ∃ b, decide (Valid ps order) = b := ⟨_, rfl⟩
  have H1 := TValid.valid_any v vo ps order w hv ho (by omega) (fun p hp => by have := hs p hp; omega) (fun s hs => by have := ht s hs; omega)
  rw [hb] at H1
  have hb2 : b = true ↔ RValid ps order := by
    rw [← hb, decide_eq_true_eq]
    exact valid_iff ps order
  have H2 := fun W (h1 : Prs W v ps) (h2 : Strs W vo order) => TRefValid.valid_any v vo ps order W h1 h2 (by omega) b hb2
  have HH1 := Lib.hid H1
  have HH2 := Lib.hid H2
  have HV := Lib.hid hv
  have HO := Lib.hid ho
  clear hv ho hf hs ht hb hb2 H1 H2
  go_enter Try.func5, Try.ntmps5
  cases b with
  | true =>
    go_wp2_with (first
      | (go_at_call 16
         (with_reducible refine HH1.out.mono ?_)
         rintro e w1 ⟨rfl, hb1⟩)
      | (go_at_call 17
         (with_reducible refine (HH2.out _ (HV.out.below hb1) (HO.out.below hb1)).mono ?_)
         rintro e w2 ⟨rfl, hb2⟩)
      | (go_at_call 11
         (with_reducible refine (HA.out _).mono ?_)
         rintro e w5 ⟨rfl, hb5⟩))
    go_ret
    exact ⟨rfl, (hb1.trans (hb2.mono hb1.size)).trans (hb5.mono (Nat.le_trans hb1.size hb2.size))⟩
  | false =>
    go_wp2_with (first
      | (go_at_call 16
         (with_reducible refine HH1.out.mono ?_)
         rintro e w1 ⟨rfl, hb1⟩)
      | (go_at_call 17
         (with_reducible refine (HH2.out _ (HV.out.below hb1) (HO.out.below hb1)).mono ?_)
         rintro e w2 ⟨rfl, hb2⟩)
      | (go_at_call 11
         (with_reducible refine (HA.out _).mono ?_)
         rintro e w5 ⟨rfl, hb5⟩))
    go_ret
    exact ⟨rfl, (hb1.trans (hb2.mono hb1.size)).trans (hb5.mono (Nat.le_trans hb1.size hb2.size))⟩
end Go.Proofs.Ytlnbkljajocfoaa.TsortJudgesWalk
