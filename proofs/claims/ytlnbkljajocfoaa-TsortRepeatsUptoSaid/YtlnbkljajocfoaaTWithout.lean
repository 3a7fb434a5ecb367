/- The reference's without: the constraints without those of an element before another one (before all, if all is true). -/
import Derived.Test.YtlnbkljajocfoaaTRefRemove
namespace Go.Proofs.Ytlnbkljajocfoaa.TWithout
open Go Go.RowKit Strs TWords TPairs TGraph TRead TPlace TElems TParse TCons TRefBefore TRefRemove

def stays (x y : Str) (all : Bool) (p : Str × Str) : Bool := !(p.1 == x) || (!all && !(p.2 == y))
def wout (ps : List (Str × Str)) (x y : Str) (all : Bool) : List (Str × Str) := ps.filter (stays x y all)
theorem wout_take (ps : List (Str × Str)) (x y : Str) (all : Bool) (k : Nat) (p : Str × Str) (h : ps[k]? = some p) : wout (ps.take (k + 1)) x y all = wout (ps.take k) x y all ++ if stays x y all p = true then [p] else [] := by
  rw [List.take_add_one, h]
  unfold wout
  rw [List.filter_append]
  cases hs : stays x y all p <;> simp [hs]

set_option maxHeartbeats 4000000 in
set_option maxRecDepth 100000 in
theorem without_any (v0 : Value) (ps : List (Str × Str)) (x y : Str) (all : Bool) (w : World) (hv : Prs w v0 ps) (hn : ps.length ≤ 16777216) :
    Calls Try.prog 28 #[v0, .string ⟨x.toArray⟩, .string ⟨y.toArray⟩, .bool all] w fun e w' => ∃ v', e = .returned v' ∧ w'.ownsRow w.heap.size 27 2 v' (wout ps x y all).length (pcells (wout ps x y all)) ∧ Below w.heap.size w w' := by
  obtain ⟨i0, hi, hz0, hz1, hz2⟩ := info_parts pair_info
  obtain ⟨a0, cc, rfl, ⟨hlc, hcm⟩, hcell⟩ := hv
  have hcm' : cc ≤ 9223372036854775807 := hcm
  go_enter Try.func28, Try.ntmps28
  go_wp2
  go_loopw [9, 10] (fun ev i wr => ∃ k : Nat, k ≤ ps.length ∧ i = .int .i64 k ∧ wr.ownsRow w.heap.size 27 2 ev (wout (ps.take k) x y all).length (pcells (wout (ps.take k) x y all)) ∧ Below w.heap.size w wr) (fun _ i _ => ps.length - (intOf i).toNat)
  case atStart => exact ⟨0, Nat.zero_le _, rfl, ⟨by simp [wout, pcells], .inl ⟨rfl, rfl⟩⟩, Below.refl _ _⟩
  case round =>
    obtain ⟨k, hk, rfl, hrow, hb⟩ := hrel
    by_cases hlt : k < ps.length
    · obtain ⟨p, hp⟩ : ∃ p, ps[k]? = some p := ⟨ps[k], List.getElem?_eq_getElem hlt⟩
      have hct := wout_take ps x y all k p hp
      obtain ⟨b0, off, rfl, hc⟩ := hcell (by intro e; rw [e] at hlt; simp at hlt)
      have q0 := (hc k p hp).1
      have q1 := (hc k p hp).2
      rw [Nat.mul_comm] at q0 q1
      have c0 := (hb.cell (World.block_lt_of_cell? w _ q0)).trans q0
      have c1 := (hb.cell (World.block_lt_of_cell? w _ q1)).trans q1
      have hki : (k : Int) < (ps.length : Int) := by omega
      have hlen : (wout (ps.take k) x y all).length ≤ k := Nat.le_trans (List.length_filter_le _ _) (by simp; omega)
      have hblk := ownsRow_block hrow
      have hbs := hb.size
      generalize wout (ps.take k) x y all = cs at *
      obtain ⟨u, v⟩ := p
      simp only at hct c0 c1
      obtain ⟨ks, hks⟩ : ∃ ks, ks = wout (ps.take (k + 1)) x y all := ⟨_, rfl⟩
      rw [← hks] at hct
      have HK := Lib.hid hks
      clear hks
      obtain ⟨bb, hbb⟩ : ∃ bb, bb = stays x y all (u, v) := ⟨_, rfl⟩
      rw [← hbb] at hct
      clear hc hcell q0 q1
      cases h1 : (u == x) <;> cases all <;> cases h2 : (v == y)
      all_goals first
        | (have hb2 : bb = true := by rw [hbb]; unfold stays; rw [h1, h2]; rfl
           rw [if_pos hb2] at hct
           clear hb2 hbb
           have HC : Hid (pcells ks = pcells cs ++ [.string ⟨u.toArray⟩, .string ⟨v.toArray⟩]) := by rw [Hid, hct, pcells_append]; rfl
           have HL : Hid (ks.length = cs.length + 1) := by rw [Hid, hct]; simp
           clear hct
           go_wp2_with (at_builtin
                        refine wpList_append_lies _ rfl _ _ _ rfl w.heap.size 27 i0 _ 2 32 Try.underlying22 hi hz0 hz1 hz2 rfl (by omega) _ cs.length (pcells cs) rfl (hrow.alloc _) ⟨wr.heap.size, 0, none⟩ 1 1 [.string ⟨u.toArray⟩, .string ⟨v.toArray⟩] rfl rfl (World.news_of_block (cs := #[.string ⟨u.toArray⟩, .string ⟨v.toArray⟩]) (t := 27) (fr := (0, 0)) (heap_alloc_new wr _)) (by simp [Value.oneCell']) (by omega) (by unfold maxLen; omega) (by omega) (by simp; omega) (wr.heap.size + 1) (by simp) ?_
                        intro gg cap w2 hown2 hgrow hat hlt2)
           go_roundw
           case rel =>
             refine ⟨k + 1, by omega, by go_num, by rw [← HK.out, HL.out, HC.out]; exact hown2, ?_⟩
             exact (hb.alloc hbs _).grown hgrow (by simp; omega) (fun q hq => (hblk q hq).1)
           case measure => simp [intOf]; omega)
        | (have hb2 : bb = false := by rw [hbb]; unfold stays; rw [h1, h2]; rfl
           rw [if_neg (by rw [hb2]; exact Bool.false_ne_true), List.append_nil] at hct
           clear hb2 hbb
           have HC := Lib.hid hct
           clear hct
           go_wp2
           go_roundw
           case rel => exact ⟨k + 1, by omega, by go_num, by rw [← HK.out, HC.out]; exact hrow, hb⟩
           case measure => simp [intOf]; omega)
    · obtain rfl : k = ps.length := by omega
      rw [List.take_length] at hrow
      clear hcell
      go_wp2
      go_ret
      exact ⟨_, rfl, hrow, hb⟩
end Go.Proofs.Ytlnbkljajocfoaa.TWithout
