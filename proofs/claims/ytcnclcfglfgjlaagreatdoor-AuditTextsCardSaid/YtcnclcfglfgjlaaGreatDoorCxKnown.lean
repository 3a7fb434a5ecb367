/- A machine that runs a program's code on written inputs by computation alone, part 16: calls whose outcome is known. No condition. -/
import Derived.Test.YtcnclcfglfgjlaaGreatDoorCxFrame
namespace Go.Proofs.YtcnclcfglfgjlaaGreatDoor.Cx
open Go

theorem intEq_eq {i j : Int} (h : intEq i j = true) : i = j := by
  unfold intEq at h
  split at h
  · rw [beq_eq h]
  · rw [beq_eq h]
  · cases h
theorem addrEq_eq {a b : Option Addr} (h : addrEq a b = true) : a = b := by
  unfold addrEq at h
  split at h
  · rfl
  · rw [Bool.and_eq_true] at h
    rw [beq_eq h.1, beq_eq h.2]
  · cases h
theorem nameEq_eq {a b : Option Nat} (h : nameEq a b = true) : a = b := by
  unfold nameEq at h
  split at h
  · rfl
  · rw [beq_eq h]
  · cases h
theorem boolEq_eq {a b : Bool} (h : boolEq a b = true) : a = b := by
  unfold boolEq at h
  split at h <;> first | rfl | cases h
theorem bytes_eq {a b : ByteArray} (h : bytesBeq a.data.toList b.data.toList = true) : a = b := by
  rw [bytesBeq_eq] at h
  apply ByteArray.ext
  apply Array.toList_inj.1
  exact eq_of_beq h
theorem veq0_eq {x y : Value} (h : veq0 x y = true) : x = y := by
  unfold veq0 at h
  split at h
  · split at h
    · rw [Bool.and_eq_true] at h; rw [kind_eq h.1, intEq_eq h.2]
    · cases h
  · split at h
    · rw [boolEq_eq h]
    · cases h
  · split at h
    · rw [bytes_eq h]
    · cases h
  · split at h
    · rw [addrEq_eq h]
    · cases h
  · split at h
    · rw [Bool.and_eq_true, Bool.and_eq_true] at h; rw [addrEq_eq h.1, beq_eq h.2.1, beq_eq h.2.2]
    · cases h
  · split at h
    · rw [nameEq_eq h]
    · cases h
  · split at h
    · rfl
    · cases h
  · split at h
    · rfl
    · cases h
  · cases h
theorem all2_eq {α : Type} {p : α → α → Bool} (hp : ∀ x y, p x y = true → x = y) : ∀ (l m : List α), all2 p l m = true → l = m
  | [], [], _ => rfl
  | x :: r, y :: q, h => by
    simp only [all2, Bool.and_eq_true] at h
    rw [hp x y h.1, all2_eq hp r q h.2]
  | [], _ :: _, h => by cases h
  | _ :: _, [], h => by cases h
theorem nest_eq {p : Value → Value → Bool} (hp : ∀ x y, p x y = true → x = y) {x y : Value} (h : nest p x y = true) : x = y := by
  unfold nest at h
  split at h
  · split at h
    · rw [Array.toList_inj.1 (all2_eq hp _ _ h)]
    · cases h
  · split at h
    · rw [Array.toList_inj.1 (all2_eq hp _ _ h)]
    · cases h
  · split at h
    · rw [Bool.and_eq_true] at h; rw [beq_eq h.1, hp _ _ h.2]
    · cases h
  · exact veq0_eq h
theorem veq_eq {x y : Value} (h : veq x y = true) : x = y := nest_eq (fun _ _ h => nest_eq (fun _ _ h => veq0_eq h) h) h
theorem entEq_eq {x y : MapEntry} (h : entEq x y = true) : x = y := by
  obtain ⟨k, v, b⟩ := x
  obtain ⟨k', v', b'⟩ := y
  simp only [entEq, Bool.and_eq_true] at h
  rw [veq_eq h.1, veq_eq h.2.1, beq_eq h.2.2]
theorem oeq_eq {x y : AObj} (h : oeq x y = true) : x = y := by
  unfold oeq at h
  split at h
  · split at h
    · rw [Bool.and_eq_true, Bool.and_eq_true] at h
      rw [all2_eq (fun _ _ h => veq_eq h) _ _ h.1, beq_eq h.2.1, beq_eq h.2.2]
    · cases h
  · split at h
    · rw [Bool.and_eq_true] at h
      rw [all2_eq (fun _ _ h => entEq_eq h) _ _ h.1, beq_eq h.2]
    · cases h
/-- the object of a name in a list -/
def look : List (Nat × AObj) → Nat → Option AObj
  | [], _ => none
  | (c, o) :: r, b => if b = c then some o else look r b
theorem setAll_get : ∀ (l : List (Nat × AObj)) (t : Tr AObj) (b : Nat), (∀ p ∈ l, p.1 ≤ lim) → (setAll l t).get b = match look l b with | some o => some o | none => t.get b
  | [], t, b, _ => rfl
  | (c, o) :: r, t, b, h => by
    have hc : c ≤ lim := h (c, o) (by simp)
    simp only [setAll, setK_eq, look]
    by_cases hb : b = c
    · subst hb
      rw [if_pos rfl, Tr.get_set _ _ _ (by unfold deep; unfold lim at hc; omega)]
    · rw [if_neg hb, Tr.get_set_ne _ _ _ _ hb]
      exact setAll_get r t b fun p hp => h p (by simp [hp])
theorem look_mem : ∀ (l : List (Nat × AObj)) (b : Nat) (o : AObj), look l b = some o → (b, o) ∈ l
  | [], b, o, h => by cases h
  | (c, u) :: r, b, o, h => by
    unfold look at h
    split at h
    · rename_i hb
      cases h
      subst hb
      simp
    · exact List.mem_cons_of_mem _ (look_mem r b o h)
theorem allIn_spec {s : HS} : ∀ (l : List (Nat × AObj)), allIn s l = true → ∀ p ∈ l, s.at p.1 = some p.2
  | [], _, p, hp => by cases hp
  | (b, o) :: r, h, p, hp => by
    unfold allIn at h
    split at h
    · rename_i o' ho
      split at h
      · rename_i he
        rcases List.mem_cons.1 hp with rfl | hp
        · rw [ho, oeq_eq he]
        · exact allIn_spec r h p hp
      · cases h
    · cases h
/-- the heap that a known call leaves -/
def Known.out (x : Known) : Hp := fun b => match look x.outH b with
  | some o => some o
  | none => look x.inH b
/-- what a known call does -/
def KOk (P : Program) (V : List Nat) (x : Known) : Prop := ∀ (E : Em) (w : World) (args' : Array Value), HR E (look x.inH) w → LR E x.args args'.toList → GL E ⟨V, []⟩ → Fresh E x.n0 x.n1 →
  Calls P x.fn args' w fun e w' => ∃ v' E', e = .returned v' ∧ VR E' x.v v' ∧ Tx E (look x.inH) w x.n0 E' x.out w' x.n1 []
/-- what a call leaves behind -/
def Back (E : Em) (s : HS) (w : World) (v : Value) (s' : HS) (l : List Nat) : Ending → World → Prop :=
  fun e w' => ∃ v' E', e = .returned v' ∧ VR E' v v' ∧ Tx E s.at w s.next E' s'.at w' s'.next l
theorem applyK_spec : ∀ (K : List Known) (g : Nat) (args : List Value) (s : HS) (v : Value) (s' : HS), applyK K g args s = some (v, s') →
    ∃ x ∈ K, g = x.fn ∧ s.next ≤ x.n0 ∧ args = x.args ∧ allIn s x.inH = true ∧ x.n1 ≤ lim ∧ (∀ p ∈ x.outH, x.n0 ≤ p.1 ∧ p.1 < x.n1) ∧ v = x.v ∧ s' = ⟨setAll x.outH s.heap, x.n1, s.log⟩
  | [], g, args, s, v, s', h => by cases h
  | x :: r, g, args, s, v, s', h => by
    unfold applyK at h
    split at h
    · rename_i hc
      simp only [Bool.and_eq_true] at hc
      obtain ⟨h1, h2, h3, h4, h5, h6⟩ := hc
      cases h
      refine ⟨x, by simp, beq_eq h1, ble_le h2, all2_eq (fun _ _ h => veq_eq h) _ _ h3, h4, ble_le h5, fun p hp => ?_, rfl, rfl⟩
      have := List.all_eq_true.1 h6 p hp
      simp only [Bool.and_eq_true, Nat.blt_eq] at this
      exact ⟨ble_le this.1, this.2⟩
    · obtain ⟨y, hy, hrest⟩ := applyK_spec r g args s v s' h
      exact ⟨y, by simp [hy], hrest⟩
theorem applyK_keeps {K : List Known} {g : Nat} {args : List Value} {s s' : HS} {v : Value} (hn : ∀ x ∈ K, x.n0 ≤ x.n1) (h : applyK K g args s = some (v, s')) : Keeps s s' [] := by
  obtain ⟨x, hx, _, h2, _, _, h5, h6, _, rfl⟩ := applyK_spec K g args s v s' h
  have := hn x hx
  refine ⟨by show s.next ≤ x.n1; omega, rfl, fun b hb _ => ?_⟩
  have hb : b < s.next ∨ x.n1 ≤ b := hb
  unfold HS.at
  show (setAll x.outH s.heap).get b = s.heap.get b
  rw [setAll_get _ _ _ fun p hp => by have := h6 p hp; omega]
  cases hl : look x.outH b with
  | none => rfl
  | some o =>
    have := h6 _ (look_mem _ _ _ hl)
    simp only at this
    omega
theorem applyK_calls {P : Program} {G : Gl} (hK : ∀ x ∈ G.known, KOk P G.vars x) {g : Nat} {args : List Value} {s s' : HS} {v : Value} (h : applyK G.known g args s = some (v, s')) {l : List Nat} (hl : s'.log = l ++ s.log)
    {E : Em} {w : World} {args' : Array Value} (H : HR E s.at w) (ha : LR E args args'.toList) (L : GL E G) (F : Fresh E s.next s'.next) : Calls P g args' w (Back E s w v s' l) := by
  obtain ⟨x, hx, e1, h2, e2, h4, h5, h6, e3, e4⟩ := applyK_spec G.known g args s v s' h
  clear h
  subst e1 e2 e3 e4
  have hlog : l = [] := by
    have h0 : [] ++ s.log = l ++ s.log := hl
    exact (List.append_cancel_right h0).symm
  subst hlog
  have F : Fresh E s.next x.n1 := F
  have hin := allIn_spec _ h4
  have sub : ∀ b o, look x.inH b = some o → s.at b = some o := fun b o hb => hin (b, o) (look_mem x.inH b o hb)
  have F0 : Fresh E x.n0 x.n1 := fun b h1 h2 => F b (by omega) h2
  refine Calls.mono (hK x hx E w args' (H.sub sub) ha L F0) ?_
  rintro e w' ⟨v', E', rfl, hv, T⟩
  refine ⟨v', E', rfl, hv, ?_⟩
  have hle := T.le
  have T2 := T.lift H sub F0 (N := List.range' x.n0 (x.n1 - x.n0)) fun b => by
    rw [List.mem_range'_1]
    constructor
    · intro h; exact .inl (by omega)
    · rintro (h | h)
      · omega
      · cases h
  have hp : patch (List.range' x.n0 (x.n1 - x.n0)) x.out s.at = (⟨setAll x.outH s.heap, x.n1, s.log⟩ : HS).at := by
    funext b
    unfold HS.at
    show _ = (setAll x.outH s.heap).get b
    rw [setAll_get _ _ _ fun p hp => by have := h6 p hp; omega]
    unfold patch Known.out
    cases ho : look x.outH b with
    | some o =>
      have := h6 _ (look_mem _ _ _ ho)
      simp only at this
      rw [if_pos (by rw [List.mem_range'_1]; omega)]
    | none =>
      simp only
      by_cases hb : b ∈ List.range' x.n0 (x.n1 - x.n0)
      · rw [if_pos hb]
        rw [List.mem_range'_1] at hb
        have hE : E b = none := F b (by omega) (by omega)
        have hsb : s.heap.get b = none := by
          cases hs : s.heap.get b with
          | none => rfl
          | some o =>
            obtain ⟨e, he, _⟩ := H.here b o hs
            rw [hE] at he
            cases he
        rw [hsb]
        cases hi : look x.inH b with
        | none => rfl
        | some o =>
          have := sub b o hi
          unfold HS.at at this
          rw [hsb] at this
          cases this
      · rw [if_neg hb]
  rw [hp] at T2
  have T3 := (Tx.wide (n' := x.n1) H (by omega)).within T2 h2 (Nat.le_refl _)
  exact T3
end Go.Proofs.YtcnclcfglfgjlaaGreatDoor.Cx
