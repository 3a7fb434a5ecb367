/- append of a slice of pairs to a slice that is nil. No condition. -/
import Derived.Test.YtlnbkljajocfoaaTPairs
import Derived.Test.YtlnbkljajocfoaaOwn
namespace Go.Proofs.Ytlnbkljajocfoaa.TAppendFirst
open Go Go.RowKit Strs TPairs

theorem pcells_at {w : World} {b off : Nat} {ps : List (Str × Str)} (h : ∀ (j : Nat) x, ps[j]? = some x → w.cell? ⟨b, off + 2 * j, none⟩ = some (.string ⟨x.1.toArray⟩) ∧ w.cell? ⟨b, off + 2 * j + 1, none⟩ = some (.string ⟨x.2.toArray⟩)) (j : Nat) (u : Value) (hj : (pcells ps)[j]? = some u) : w.cell? ((⟨b, off, none⟩ : Addr).add j) = some u := by
  have hadd : (⟨b, off, none⟩ : Addr).add j = ⟨b, off + j, none⟩ := by unfold Addr.add; split <;> simp_all
  rw [hadd]
  have hl : j < (pcells ps).length := (List.getElem?_eq_some_iff.1 hj).1
  rw [pcells_length] at hl
  obtain ⟨x, hx⟩ : ∃ x, ps[j / 2]? = some x := ⟨_, List.getElem?_eq_getElem (by omega)⟩
  obtain ⟨g1, g2⟩ := pcells_get ps (j / 2) x hx
  obtain ⟨c1, c2⟩ := h (j / 2) x hx
  rcases Nat.mod_two_eq_zero_or_one j with h0 | h0
  · have e : 2 * (j / 2) = j := by omega
    rw [e] at g1 c1
    rw [g1] at hj
    rw [← Option.some.inj hj]
    exact c1
  · have e : 2 * (j / 2) + 1 = j := by omega
    rw [Nat.add_assoc] at c2
    rw [e] at g2 c2
    rw [g2] at hj
    rw [← Option.some.inj hj]
    exact c2
theorem pcells_one (ps : List (Str × Str)) : ∀ u ∈ pcells ps, u.oneCell' = true := by
  intro u hu
  unfold pcells at hu
  obtain ⟨p, -, hp⟩ := List.mem_flatMap.1 hu
  simp at hp
  rcases hp with rfl | rfl <;> rfl
theorem wpList_append_first {P : Program} (w : World) {ops : Array Oper} {rest : List Oper} {o : Oper} {a : Act} {Q : Exit → Act → World → Prop} (hgd : o.guard = none) (s x : Operand) (t : TypeId)
    (ho : o.op = .call { callee := .builtin .append, args := #[s, x], argTypes := #[t, t] })
    (base : Nat) (e : TypeId) (i : TypeInfo) (z : Value) (size bytes : Nat) (ht : P.underlying t = some (.slice e)) (hi : P.info? e = some i) (hz : i.zero = some z)
    (hsize : i.size = size) (hby : i.bytes = bytes) (hzs : z.cells.size = size) (hsz : 0 < size)
    (hs : a.eval s = .slice none 0 0) (A : Option Addr) (m c : Nat) (news : List Value) (hx : a.eval x = .slice A m c) (hl : news.length = m * size) (hsrc : m ≠ 0 → ∃ ad, A = some ad ∧ ∀ j u, news[j]? = some u → w.cell? (ad.add j) = some u) (h1 : ∀ u ∈ news, u.oneCell' = true)
    (h63 : m ≤ maxLen) (hbytes : m * bytes ≤ 140737488355328) (hbase : base ≤ w.heap.size)
    (h : ∀ v' w', w'.ownsRow base e size v' m news → Below base w w' → wpList P ops Q rest (a.put o.dst v') w') : wpList P ops Q (o :: rest) a w := by
  refine wpList_plain hgd fun K hK => ?_
  rcases A with _ | ad
  · have hm : m = 0 := by
      refine Decidable.byContradiction fun hne => ?_
      obtain ⟨ad, e0, _⟩ := hsrc hne
      cases e0
    subst hm
    have hn : news = [] := List.eq_nil_of_length_eq_zero (by simpa using hl)
    subst hn
    have hr : (Builtin.append_ #[t, t] o.type #[.slice none 0 0, .slice none 0 c]).run P w = .ok (.slice none 0 0) w := by
      simp [Builtin.append_, run_underlying ht, sizeOf, typeInfo, hi, Builtin.lenOf, Builtin.firstCells]
    unfold Oper.wp execOp
    simp only [ho, resolve, invoke, builtin, Sem.run_bind, Sem.run_pure, Result.andThen_ok, List.map_toArray, List.map_cons, List.map_nil, hs, hx, hr]
    exact hK _ _ (h _ w ⟨by simp, .inl ⟨rfl, rfl⟩⟩ (Below.refl _ _))
  · have hnews : ∀ j u, news[j]? = some u → w.cell? (ad.add j) = some u := by
      intro j u hu
      by_cases hm : m = 0
      · subst hm
        have hn : news = [] := List.eq_nil_of_length_eq_zero (by simpa using hl)
        subst hn
        simp at hu
      · obtain ⟨ad', e0, h2⟩ := hsrc hm
        injection e0 with e0
        subst e0
        exact h2 j u hu
    obtain ⟨v', w', hr, h2, h3, -⟩ := run_append_own (P := P) w base t o.type e i z size bytes ht hi hz hsize hby hzs hsz (.slice none 0 0) 0 [] ⟨by simp, .inl ⟨rfl, rfl⟩⟩ ad m c news hl hnews h1 (by omega) (by simpa using hbytes) hbase
    unfold Oper.wp execOp
    simp only [ho, resolve, invoke, builtin, Sem.run_bind, Sem.run_pure, Result.andThen_ok, List.map_toArray, List.map_cons, List.map_nil, hs, hx, hr]
    rw [Nat.zero_add, List.nil_append] at h2
    exact hK _ _ (h v' w' h2 ((Below.refl _ _).grown h3 hbase (fun k hk => by simp [Value.ownBlock] at hk)))
end Go.Proofs.Ytlnbkljajocfoaa.TAppendFirst
