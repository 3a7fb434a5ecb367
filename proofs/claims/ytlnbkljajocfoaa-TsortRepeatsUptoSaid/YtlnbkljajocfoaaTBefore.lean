/- (*sorter).before returns the element from which the first constraint comes that is left and ends at an element. -/
import Derived.Test.YtlnbkljajocfoaaTSorter
namespace Go.Proofs.Ytlnbkljajocfoaa.TBefore
open Go Go.RowKit Go.Maps Go.WideMaps Strs TWords TPairs TGraph TRead Topo TSorter

theorem prev_hit (E : Edges) (gone : Nat → Bool) (x q i : Nat) (h : (into E x)[q]? = some i) (hg : gone i = false) (hb : ∀ j k, j < q → (into E x)[j]? = some k → gone k = true) : prev E gone x = (E.getD i (0, 0)).1 := by
  have hq := (List.getElem?_eq_some_iff.1 h).1
  have : (into E x).find? (fun i => !gone i) = some i := by
    rw [List.find?_eq_some_iff_getElem]
    refine ⟨by simp [hg], q, hq, (List.getElem?_eq_some_iff.1 h).2, fun j hj => ?_⟩
    rw [hb j _ hj (List.getElem?_eq_getElem (by omega))]
    rfl
  unfold prev
  rw [this]
theorem prev_miss (E : Edges) (gone : Nat → Bool) (x : Nat) (hb : ∀ j k, j < (into E x).length → (into E x)[j]? = some k → gone k = true) : prev E gone x = x := by
  have : (into E x).find? (fun i => !gone i) = none := by
    rw [List.find?_eq_none]
    intro k hk
    obtain ⟨j, hj, e⟩ := List.getElem_of_mem hk
    rw [hb j k hj (by rw [List.getElem?_eq_getElem hj, e])]
    simp
  unfold prev
  rw [this]
theorem prev_lt {L : Lay} {E : Edges} {n : Nat} {gone done : Nat → Bool} {w : World} (h : Sr L E n gone done w) (x : Nat) (hx : x < n) : prev E gone x < n := by
  unfold prev
  split
  · rename_i i hi
    have hm := (mem_into E x i).1 (List.mem_of_find?_eq_some hi)
    have := h.ends i (E[i]'hm.1) (List.getElem?_eq_getElem hm.1)
    rw [List.getD_eq_getElem?_getD, List.getElem?_eq_getElem hm.1]
    exact this.1
  · exact hx

set_option maxHeartbeats 1000000 in
set_option maxRecDepth 100000 in
theorem before_any (L : Lay) (E : Edges) (n : Nat) (gone done : Nat → Bool) (x : Nat) (w : World) (h : Sr L E n gone done w) (hx : x < n) :
    Calls Try.prog 37 #[.pointer (some ⟨L.sb, 0, none⟩), .int .i64 x] w
      fun e w' => e = .returned (.int .i64 (prev E gone x : Nat)) ∧ w = w' := by
  have hc1 := h.c1
  have hc2 := h.c2
  obtain ⟨v, i0, a, c, rfl, ⟨hl1, hl2⟩, hcell⟩ := h.ins x hx
  obtain ⟨hb1, hb2, hb3, hb4⟩ := h.bound
  have hb2' : L.nc ≤ 9223372036854775807 := hb2
  have hb4' : L.ec ≤ 9223372036854775807 := hb4
  have hl2' : c ≤ 9223372036854775807 := hl2
  have hx1 : (x : Int) < (n : Int) := by omega
  have hedge := h.edge
  have hea := h.ea
  clear h
  go_enter Try.func37, Try.ntmps37
  go_wp2
  go_loopw [15] (fun i wr => ∃ q : Nat, q ≤ (into E x).length ∧ i = .int .i64 q ∧ wr = w ∧ ∀ j k, j < q → (into E x)[j]? = some k → gone k = true) (fun i _ => (into E x).length - (intOf i).toNat)
  case atStart => exact ⟨0, Nat.zero_le _, rfl, rfl, fun j k hj => by omega⟩
  case round =>
    obtain ⟨q, hq, rfl, rfl, hall⟩ := hrel
    by_cases hlt : q < (into E x).length
    · obtain ⟨k, hk⟩ : ∃ k, (into E x)[q]? = some k := ⟨_, List.getElem?_eq_getElem hlt⟩
      have hm := (mem_into E x k).1 (List.mem_of_getElem? hk)
      obtain ⟨b, rfl, hbl, hbs, hcb⟩ := hcell (by intro e; rw [e] at hlt; simp at hlt)
      have k0 := hcb q k hk
      obtain ⟨e, he⟩ : ∃ e, E[k]? = some e := ⟨E[k], List.getElem?_eq_getElem hm.1⟩
      obtain ⟨e0, e1, e2, -⟩ := hedge k e he
      rw [hea (by intro e; rw [e] at hm; simp at hm)] at hc1
      have hgd : E.getD k (0, 0) = e := by rw [List.getD_eq_getElem?_getD, he]; rfl
      have hkl : (k : Int) < (E.length : Int) := by omega
      have hql : (q : Int) < ((into E x).length : Int) := by omega
      cases hg : gone k with
      | false =>
        rw [hg] at e2
        have hp := Lib.hid (prev_hit E gone x q k hk hg hall)
        rw [hgd] at hp
        clear hcb hcell hedge hall hm hgd hk
        go_wp2
        go_ret
        exact ⟨by rw [hp.out]; rfl, rfl⟩
      | true =>
        rw [hg] at e2
        have hal2 : Hid (∀ j k', j < q + 1 → (into E x)[j]? = some k' → gone k' = true) := by
          intro j k' hj hk'
          by_cases hjq : j = q
          · subst hjq; rw [hk] at hk'; have := Option.some.inj hk'; subst this; exact hg
          · exact hall j k' (by omega) hk'
        clear hcb hcell hedge hall hm hgd hk
        go_wp2
        go_roundw
        case rel => exact ⟨q + 1, by omega, by go_num, by trivial, hal2.out⟩
        case measure => simp [intOf]; omega
    · obtain rfl : q = (into E x).length := by omega
      have hp := Lib.hid (prev_miss E gone x hall)
      clear hcell hedge hall
      go_wp2
      go_ret
      exact ⟨by rw [hp.out]; rfl, by trivial⟩
end Go.Proofs.Ytlnbkljajocfoaa.TBefore
