/- Arguments that are structs with arrays of numbers, opened to their cells. No condition. -/
import Derived.Test.YtcnclcfglfgjlaaGreatDoorProg
import Derived.WalkKit
import Derived.ProofKit
import Derived.OpenShut
import Derived.ChangeArms
import Derived.Test.YtcnclcfglfgjlaaGreatDoorSetMath
namespace Go.Proofs.YtcnclcfglfgjlaaGreatDoor.Args
open Go Go.ChangeShapes Go.WideShapes Go.ChangeAt Go.RowKit
set_option maxRecDepth 100000

section
variable {H : Type} {enc : TypeId × Value → H} {P : Program} {w : World} {base : Nat} {spare : Nat → Bool} {held : Bool}
/-- an array of integers -/
theorem array_ints {t e : TypeId} {n : Nat} {k : IntKind} {fuel : Nat} {cs : List Value} {x : DataW H × List MemPlace} (ht : P.underlying t = some (.array n e)) (he : P.underlying e = some (.int k)) (hc : P.cellsOf e = 1) (hC : P.cellsOf t = n)
    (h : DataW.trod enc P w base spare held fuel t cs = some x) : ∃ zs : List Int, zs.length = n ∧ cs = zs.map (Value.int k) ∧ ∀ z ∈ zs, (Lit.int k z).wf = true := by
  obtain ⟨xs, m, _, _, hlen, hxl, hg⟩ := DataW.trod_array ht h
  rw [hC] at hlen
  have key : ∀ i, i < n → ∃ z, cs[i]? = some (.int k z) ∧ (Lit.int k z).wf = true := by
    intro i hi
    have h1 := hg i hi
    rw [hc, Nat.mul_one, List.getElem?_eq_getElem (by omega)] at h1
    obtain ⟨z, hz, _, hw⟩ := DataW.trod_int he h1
    refine ⟨z, ?_, hw⟩
    have h2 : (cs.drop i).take 1 = [cs[i]'(by omega)] := by
      rw [List.drop_eq_getElem_cons (by omega)]; rfl
    rw [h2] at hz
    injection hz with hz
    rw [List.getElem?_eq_getElem (by omega), hz]
  refine ⟨cs.map intOf, by simpa using hlen, ?_, ?_⟩
  · apply List.ext_getElem (by simp)
    intro i h1 h2
    obtain ⟨z, hz, _⟩ := key i (by omega)
    rw [List.getElem?_eq_getElem h1] at hz
    injection hz with hz
    simp [hz, intOf]
  · intro z hz
    obtain ⟨v, hv, rfl⟩ := List.mem_map.1 hz
    obtain ⟨i, hi, rfl⟩ := List.getElem_of_mem hv
    obtain ⟨z, hz, hw⟩ := key i (by omega)
    rw [List.getElem?_eq_getElem hi] at hz
    injection hz with hz
    rw [hz]
    exact hw
end
theorem u8_of {z : Int} (h : (Lit.int .u8 z).wf = true) : ((UInt8.ofNat z.toNat).toNat : Int) = z := by
  have := bounds_u8 h
  simp
  omega
theorem u64_of {z : Int} (h : (Lit.int .u64 z).wf = true) : ((z.toNat : Nat) : Int) = z ∧ z.toNat < 18446744073709551616 := by
  have := bounds_u64 h
  omega
theorem open_charset {H : Type} {enc : TypeId × Value → H} {W : World} {r : Reach} {b0 : Nat} {v : Value} {d : DataW H} {p : List MemPlace} {sp : Nat → Bool} {hd : Bool}
    (hv : Value.okWide Tryz.prog W r b0 25 v) (h : DataW.Trod enc Tryz.prog W 0 sp hd 25 v d p) :
    ∃ p : Nat → Bool, v = .agg #[.int .u64 (Sets.wordOf p 0 : Nat), .int .u64 (Sets.wordOf p 1 : Nat), .int .u64 (Sets.wordOf p 2 : Nat), .int .u64 (Sets.wordOf p 3 : Nat)] := by
  obtain ⟨cs, rfl, hsz⟩ := okWide_struct Tryz.underlying25 hv
  obtain ⟨fuel, hf⟩ := h
  obtain ⟨xs, n, _, _, hlen, hxl, hg⟩ := DataW.trod_struct Tryz.underlying25 hf
  have h0 := hg 0 _ rfl
  have hx2 : xs.length = 1 := hxl
  rw [List.getElem?_eq_getElem (by omega)] at h0
  obtain ⟨zs, hz, hzs, hw⟩ := array_ints Tryz.underlying23 Tryz.underlying22 (by kernel_rfl) (by kernel_rfl) h0
  have hc4 : cs.size = 4 := hsz.trans (by kernel_rfl)
  obtain ⟨l⟩ := cs
  match l, hc4, zs, hz with
  | [c0, c1, c2, c3], _, [z0, z1, z2, z3], _ =>
    simp [Value.cells, show Tryz.prog.cellsOf 23 = 4 from by kernel_rfl] at hzs
    obtain ⟨rfl, rfl, rfl, rfl⟩ := hzs
    have b0 := u64_of (hw z0 (by simp))
    have b1 := u64_of (hw z1 (by simp))
    have b2 := u64_of (hw z2 (by simp))
    have b3 := u64_of (hw z3 (by simp))
    refine ⟨Sets.ofWords fun j => [z0.toNat, z1.toNat, z2.toNat, z3.toNat].getD j 0, ?_⟩
    rw [Sets.word_ofWords _ 0 b0.2, Sets.word_ofWords _ 1 b1.2, Sets.word_ofWords _ 2 b2.2, Sets.word_ofWords _ 3 b3.2]
    show _ = Value.agg #[.int .u64 (z0.toNat : Nat), .int .u64 (z1.toNat : Nat), .int .u64 (z2.toNat : Nat), .int .u64 (z3.toNat : Nat)]
    rw [b0.1, b1.1, b2.1, b3.1]
theorem open_report {H : Type} {enc : TypeId × Value → H} {W : World} {r : Reach} {b0 : Nat} {v : Value} {d : DataW H} {p : List MemPlace} {sp : Nat → Bool} {hd : Bool}
    (hv : Value.okWide Tryz.prog W r b0 55 v) (h : DataW.Trod enc Tryz.prog W 0 sp hd 55 v d p) :
    ∃ a b : Int, v = .agg #[.int .i64 a, .int .i64 b] ∧ (-9223372036854775808 ≤ a ∧ a ≤ 9223372036854775807 ∧ -9223372036854775808 ≤ b ∧ b ≤ 9223372036854775807) := by
  obtain ⟨cs, rfl, hsz⟩ := okWide_struct Tryz.underlying55 hv
  obtain ⟨fuel, hf⟩ := h
  obtain ⟨xs, n, _, _, hlen, hxl, hg⟩ := DataW.trod_struct Tryz.underlying55 hf
  have h0 := hg 0 _ rfl
  have h1 := hg 1 _ rfl
  have hx2 : xs.length = 2 := hxl
  rw [List.getElem?_eq_getElem (by omega)] at h0 h1
  obtain ⟨a, ha, _, wa⟩ := DataW.trod_int Tryz.underlying3 h0
  obtain ⟨b, hb, _, wb⟩ := DataW.trod_int Tryz.underlying3 h1
  have hc2 : cs.size = 2 := hsz.trans (by kernel_rfl)
  obtain ⟨l⟩ := cs
  match l, hc2 with
  | [c0, c1], _ =>
    simp [Value.cells, show Tryz.prog.cellsOf 3 = 1 from by kernel_rfl] at ha hb
    subst ha hb
    have := bounds_i64 wa
    have := bounds_i64 wb
    exact ⟨a, b, rfl, by omega⟩
end Go.Proofs.YtcnclcfglfgjlaaGreatDoor.Args
