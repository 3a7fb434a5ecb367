/- The reference's constraints: the pairs of different elements. -/
import Derived.Test.YtlnbkljajocfoaaTElems
import Derived.Test.YtlnbkljajocfoaaTParse
import Derived.BigQuiet
namespace Go.Proofs.Ytlnbkljajocfoaa.TCons
open Go Go.RowKit Strs TWords TPairs TGraph TRead TPlace TElems TParse

def cons (ps : List (Str × Str)) : List (Str × Str) := ps.filter fun p => !(p.1 == p.2)
theorem cons_take (ps : List (Str × Str)) (k : Nat) (p : Str × Str) (h : ps[k]? = some p) : cons (ps.take (k + 1)) = cons (ps.take k) ++ if p.1 = p.2 then [] else [p] := by
  rw [List.take_add_one, h]
  unfold cons
  rw [List.filter_append]
  by_cases e : p.1 = p.2
  · simp [e]
  · simp [e]
theorem cons_le (ps : List (Str × Str)) : (cons ps).length ≤ ps.length := List.length_filter_le _ _

set_option maxHeartbeats 2000000 in
set_option maxRecDepth 100000 in
theorem cons_any (v0 : Value) (ps : List (Str × Str)) (w : World) (hv : Prs w v0 ps) (hn : ps.length ≤ 16777216) :
    Calls Try.prog 26 #[v0] w fun e w' => ∃ v', e = .returned v' ∧ w'.ownsRow w.heap.size 27 2 v' (cons ps).length (pcells (cons ps)) ∧ Below w.heap.size w w' := by
  obtain ⟨i0, hi, hz0, hz1, hz2⟩ := info_parts pair_info
  obtain ⟨a0, cc, rfl, ⟨hlc, hcm⟩, hcell⟩ := hv
  have hcm' : cc ≤ 9223372036854775807 := hcm
  go_enter Try.func26, Try.ntmps26
  go_wp2
  go_loopw [3, 4] (fun ev i wr => ∃ k : Nat, k ≤ ps.length ∧ i = .int .i64 k ∧ wr.ownsRow w.heap.size 27 2 ev (cons (ps.take k)).length (pcells (cons (ps.take k))) ∧ Below w.heap.size w wr) (fun _ i _ => ps.length - (intOf i).toNat)
  case atStart => exact ⟨0, Nat.zero_le _, rfl, ⟨by simp [cons, pcells], .inl ⟨rfl, rfl⟩⟩, Below.refl _ _⟩
  case round =>
    obtain ⟨k, hk, rfl, hrow, hb⟩ := hrel
    by_cases hlt : k < ps.length
    · obtain ⟨p, hp⟩ : ∃ p, ps[k]? = some p := ⟨ps[k], List.getElem?_eq_getElem hlt⟩
      have hct := cons_take ps k p hp
      obtain ⟨b0, off, rfl, hc⟩ := hcell (by intro e; rw [e] at hlt; simp at hlt)
      have q0 := (hc k p hp).1
      have q1 := (hc k p hp).2
      rw [Nat.mul_comm] at q0 q1
      have c0 := (hb.cell (World.block_lt_of_cell? w _ q0)).trans q0
      have c1 := (hb.cell (World.block_lt_of_cell? w _ q1)).trans q1
      have hki : (k : Int) < (ps.length : Int) := by omega
      have hlen := Nat.le_trans (cons_le (ps.take k)) (by simp; omega : (ps.take k).length ≤ k)
      generalize cons (ps.take k) = cs at *
      obtain ⟨x, y⟩ := p
      simp only at hct c0 c1
      clear hc hcell q0 q1
      by_cases hxy : x = y
      · rw [if_pos hxy, List.append_nil] at hct
        have HC := Lib.hid hct
        subst hxy
        clear hct
        go_wp2_with fail
        go_quiet (fail)
        go_wp2
        go_roundw
        case rel => exact ⟨k + 1, by omega, by go_num, by rw [HC.out]; exact hrow, Base.below_drewN hb _⟩
        case measure => simp [intOf]; omega
      · rw [if_neg hxy] at hct
        have HC : Hid (pcells (cons (ps.take (k + 1))) = pcells cs ++ [.string ⟨x.toArray⟩, .string ⟨y.toArray⟩]) := by rw [Hid, hct, pcells_append]; rfl
        have HL : Hid ((cons (ps.take (k + 1))).length = cs.length + 1) := by rw [Hid, hct]; simp
        have hne : (x == y) = false := by simpa using hxy
        clear hct
        go_wp2_with fail
        go_quiet (fail)
        have hrowD : (wr.drewN nq).ownsRow w.heap.size 27 2 u3 cs.length (pcells cs) := hrow
        have hblk := ownsRow_block hrow
        have hbs := hb.size
        have hbD : Below w.heap.size w (wr.drewN nq) := Base.below_drewN hb _
        go_wp2_with (at_builtin
                     refine wpList_append_lies _ rfl _ _ _ rfl w.heap.size 27 i0 _ 2 32 Try.underlying22 hi hz0 hz1 hz2 rfl (by omega) _ cs.length (pcells cs) rfl (hrowD.alloc _) ⟨wr.heap.size, 0, none⟩ 1 1 [.string ⟨x.toArray⟩, .string ⟨y.toArray⟩] rfl rfl (World.news_of_block (cs := #[.string ⟨x.toArray⟩, .string ⟨y.toArray⟩]) (t := 27) (fr := (0, 0)) (heap_alloc_new (wr.drewN nq) _)) (by simp [Value.oneCell']) (by omega) (by unfold maxLen; omega) (by omega) (by simp; omega) (wr.heap.size + 1) (by simp) ?_
                     intro gg cap w2 hown2 hgrow hat hlt2)
        go_roundw
        case rel =>
          refine ⟨k + 1, by omega, by go_num, by rw [HL.out, HC.out]; exact hown2, ?_⟩
          exact (hbD.alloc (by simpa using hbs) _).grown hgrow (by simp; omega) (fun q hq => (hblk q hq).1)
        case measure => simp [intOf]; omega
    · obtain rfl : k = ps.length := by omega
      rw [List.take_length] at hrow
      clear hcell
      go_wp2
      go_ret
      exact ⟨_, rfl, hrow, hb⟩
end Go.Proofs.Ytlnbkljajocfoaa.TCons
