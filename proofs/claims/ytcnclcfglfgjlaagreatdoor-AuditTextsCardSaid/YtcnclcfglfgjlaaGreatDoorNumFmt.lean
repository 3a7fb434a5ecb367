/- The reference's Format returns the decimal numeral of every int. -/
import Derived.Test.YtcnclcfglfgjlaaGreatDoorOwn
import Derived.Test.YtcnclcfglfgjlaaGreatDoorProg
import Derived.OwnWalkIn
import Derived.Lib.ItoaNum
import Derived.Below
namespace Go.Proofs.YtcnclcfglfgjlaaGreatDoor.NumFmt
open Go Go.RowKit

def dd (u : Nat) : List UInt8 := if u = 0 then [] else Lib.decDigits u
theorem dd_step {u : Nat} (h : u ≠ 0) : dd u = dd (u / 10) ++ [UInt8.ofNat (48 + u % 10)] := by
  unfold dd
  rw [if_neg h, Lib.decDigits]
  by_cases h1 : u < 10
  · rw [dif_pos h1, if_pos (by omega), show u % 10 = u by omega]
    rfl
  · rw [dif_neg h1, if_neg (by omega)]
def sgn (n : Int) (u : Nat) : Int := if n < 0 then -(u : Int) else u
theorem conv1 (W : World) (b : Nat) (z : Int) (T : Nat) (hb : W.heap[b]? = some (.cells #[.int .u8 z] T)) : (convert 84 9 (.slice (some ⟨b, 0, none⟩) 1 1)).run Tryz.prog W = .ok (.string ⟨#[UInt8.ofNat z.toNat]⟩) W := by
  have hl : (loadCells ⟨b, 0, none⟩ 1).run Tryz.prog W = .ok ([z].map (Value.int .u8)).toArray W := by
    refine run_loadCells_list (P := Tryz.prog) W ⟨b, 0, none⟩ [.int .u8 z] fun j v hj => ?_
    cases j with
    | zero =>
      simp only [List.getElem?_cons_zero, Option.some.injEq] at hj
      subst hj
      have : (⟨b, 0, none⟩ : Addr).add 0 = ⟨b, 0, none⟩ := rfl
      rw [this, cell_of_row W b 0 _ T _ hb]
      rfl
    | succ j => simp at hj
  have hr := run_bytesToString (P := Tryz.prog) W ⟨b, 0, none⟩ 1 1 [z] hl
  simp [convert, run_underlying Tryz.underlying84, run_underlying Tryz.underlying9, run_underlying Tryz.underlying5, hr]
  rfl
theorem alloc_at (w : World) (o : Obj) : (w.alloc o).heap[w.heap.size]? = some o := by
  show (w.heap.push o)[w.heap.size]? = some o
  simp
theorem nd_le : ∀ (k u : Nat), u < 10 ^ (k + 1) → Lib.nDigits u ≤ k + 1
  | 0, u, h => by rw [Lib.nDigits_small (by simpa using h)]; exact Nat.le_refl _
  | k + 1, u, h => by
    by_cases h1 : u < 10
    · rw [Lib.nDigits_small h1]; omega
    · rw [Lib.nDigits_big h1]
      have := nd_le k (u / 10) (by rw [Nat.pow_succ] at h; omega)
      omega
theorem dd_len {u a : Nat} {l : List UInt8} (h : dd u ++ l = dd a) (ha : a ≤ 9223372036854775808) : l.length ≤ 20 := by
  have h1 : (dd a).length ≤ 20 := by
    unfold dd
    split
    · simp
    · rw [Lib.decDigits_length]
      exact nd_le 19 a (by omega)
  have := congrArg List.length h
  rw [List.length_append] at this
  omega
theorem dd_end {u a : Nat} {l : List UInt8} (h : dd u ++ l = dd a) (hu : u = 0) (ha : a ≠ 0) : l = Lib.decDigits a := by
  subst hu
  unfold dd at h
  rw [if_pos rfl, if_neg ha] at h
  exact h
theorem consStr (x : UInt8) (l : List UInt8) : (⟨#[x]⟩ : ByteArray) ++ ⟨l.toArray⟩ = ⟨(x :: l).toArray⟩ := by
  apply ByteArray.ext
  rw [ByteArray.data_append]
  simp
theorem nz {u : Nat} (h : ((u : Int) != 0) = true) : u ≠ 0 := by
  rintro rfl
  simp at h
theorem nz' {u : Nat} (h : (-(u : Int) != 0) = true) : u ≠ 0 := by
  rintro rfl
  simp at h
theorem itoa0 : Lib.itoa 0 = [48] := by
  unfold Lib.itoa
  rw [if_neg (by decide), Lib.decDigits, dif_pos (by decide)]
  rfl
set_option maxHeartbeats 2000000 in
set_option maxRecDepth 100000 in
theorem fmt_any (n : Int) (h0 : -9223372036854775808 ≤ n) (h1 : n ≤ 9223372036854775807) (w : World) :
    Calls Tryz.prog 43 #[.int .i64 n] w fun e w' => e = .returned (.string ⟨(Lib.itoa n).toArray⟩) ∧ Below w.heap.size w w' := by
  go_enter Tryz.func43, Tryz.ntmps43
  go_wp2
  · have hz : n = 0 := by simpa using ‹(n == 0) = true›
    go_ret
    refine ⟨?_, Below.refl _ _⟩
    rw [hz, itoa0]
    rfl
  · have hn0 : n ≠ 0 := by simpa using ‹(n == 0) = false›
    go_loopw [3, 4, 5] (fun s m d wr => ∃ u l, s = .string ⟨l.toArray⟩ ∧ m = .int .i64 (sgn n u) ∧ dd u ++ l = dd n.natAbs ∧ u ≤ n.natAbs ∧ Below w.heap.size w wr) (fun _ m _ _ => (intOf m).natAbs)
    case atStart => exact ⟨n.natAbs, [], rfl, by unfold sgn; congr 1; split <;> omega, by simp, Nat.le_refl _, Below.refl _ _⟩
    case round =>
      obtain ⟨u, l, rfl, rfl, hdd, hle, hb⟩ := hrel
      have hlen := dd_len hdd (by omega)
      have halloc : ∀ o, Below w.heap.size w (wr.alloc o) := fun o => hb.alloc hb.size o
      have hconv : ∀ z, (convert 84 9 (.slice (some ⟨wr.heap.size, 0, none⟩) 1 1)).run Tryz.prog (wr.alloc (.cells #[.int .u8 z] 5)) = .ok (.string ⟨#[UInt8.ofNat z.toNat]⟩) (wr.alloc (.cells #[.int .u8 z] 5)) := fun z => conv1 _ _ _ _ (alloc_at _ _)
      have next : u ≠ 0 → dd (u / 10) ++ (UInt8.ofNat (48 + u % 10) :: l) = dd n.natAbs := fun h => by rw [← hdd, dd_step h]; simp
      by_cases hn : n < 0
      · have hs : sgn n u = -(u : Int) := by unfold sgn; rw [if_pos hn]
        have hs2 : sgn n (u / 10 : Nat) = -((u / 10 : Nat) : Int) := by unfold sgn; rw [if_pos hn]
        rw [hs]
        clear hs
        go_wp2
        · have hu := nz' ‹(-(u : Int) != 0) = true›
          go_roundw
          case rel => exact ⟨u / 10, UInt8.ofNat (48 + u % 10) :: l, by rw [consStr]; simp, by rw [hs2]; rfl, next hu, by omega, halloc _⟩
          case measure => simp [intOf]; omega
        · have hu := nz' ‹(-(u : Int) != 0) = true›
          have hz : (48 + -((u : Int) % 10)).toNat = 48 + u % 10 := by
            have := ‹(u : Int) % 10 ≤ 0›
            omega
          go_roundw
          case rel => exact ⟨u / 10, UInt8.ofNat (48 + u % 10) :: l, by rw [hz, consStr], by rw [hs2]; rfl, next hu, by omega, halloc _⟩
          case measure => simp [intOf]; omega
        · go_ret
          refine ⟨?_, hb⟩
          have hl := dd_end hdd (by simpa using ‹(-(u : Int) != 0) = false›) (by omega)
          rw [Lib.itoa, if_pos hn, ← hl, ← consStr]
          rfl
      · have hs : sgn n u = (u : Int) := by unfold sgn; rw [if_neg hn]
        have hs2 : sgn n (u / 10 : Nat) = ((u / 10 : Nat) : Int) := by unfold sgn; rw [if_neg hn]
        rw [hs]
        clear hs
        go_wp2
        · have hu := nz ‹((u : Int) != 0) = true›
          go_roundw
          case rel => exact ⟨u / 10, UInt8.ofNat (48 + u % 10) :: l, by rw [consStr]; simp, by rw [hs2]; rfl, next hu, by omega, halloc _⟩
          case measure => simp [intOf]; omega
        · go_ret
          refine ⟨?_, hb⟩
          have hl := dd_end hdd (by simpa using ‹((u : Int) != 0) = false›) (by omega)
          rw [Lib.itoa, if_neg (by omega), show n.toNat = n.natAbs by omega, ← hl]
          rfl
end Go.Proofs.YtcnclcfglfgjlaaGreatDoor.NumFmt
