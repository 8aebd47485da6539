/- The plain functions of audit, and what they amount to. -/
import Derived.Test.YtbkfoogenhinfaaSeat
import Derived.Test.YtbkfoogenhinfaaJb
set_option linter.unusedVariables false
set_option linter.unusedSimpArgs false
namespace Go.Ideal.Seat
abbrev En := Int × Int × Int
/-- One more entry. -/
def addP (out : List En) (e : En) : List En := match out.getLast? with
  | some p => if p.1 = e.1 ∧ p.2.1 = e.2.1 then out.dropLast ++ [(p.1, p.2.1, IntKind.i64.wrap (p.2.2 + 1))] else out ++ [(e.1, e.2.1, 1)]
  | none => [(e.1, e.2.1, 1)]
def partsOf (l : List En) : List En := l.foldl addP []
theorem addP_len (out : List En) (e : En) : (addP out e).length ≤ out.length + 1 := by
  unfold addP
  split
  · split <;> simp
  · simp
theorem last_idx {α : Type} {l : List α} (h : 0 < l.length) : IntKind.i64.wrap (((l.length : Nat) : Int) - 1) = ((l.length - 1 : Nat) : Int) ∨ 2 ^ 62 < l.length := by
  by_cases hl : 2 ^ 62 < l.length
  · exact .inr hl
  · left; rw [Go.IntWalk.i64_in _ (by omega)]; omega
theorem set_last {α : Type} : ∀ {l : List α} {a b : α}, l.getLast? = some a → l.set (l.length - 1) b = l.dropLast ++ [b]
  | [], _, _, h => by simp at h
  | [x], a, b, h => by simp
  | x :: y :: l, a, b, h => by
    have ih := set_last (l := y :: l) (a := a) (b := b) (by simpa using h)
    simp only [List.length_cons, Nat.add_sub_cancel] at ih ⊢
    simp only [List.set_cons_succ, List.dropLast_cons_cons, List.cons_append, ih]
theorem parts_eq (l : List En) (h : l.length ≤ 2 ^ 30) : F_audit_Parts l = some (partsOf l) := by
  unfold F_audit_Parts
  rw [iter_run (l := l) (mk := fun (a : List En) i => (a, i)) (step := stepS addP) (fin := fun a => some (a, (l.length : Int), false)) (fun i a => a.length ≤ i) ?_ ?_ ?_ (by simp)]
  · rw [runL_fold]; rfl
  · intro a i e he hv
    have hi := getE_bound he
    have hi' : ((i : Int) < l.length) := by omega
    simp only [hi', decide_true, cond_true, Int.natCast_nonneg, Int.toNat_natCast, he, Option.bind_some, stepS, Option.map_some]
    cases hlast : a.getLast? with
    | none =>
      have : a = [] := by simpa using hlast
      subst this
      have hm : ((0 : Nat) + 1) * (24 + 1) ≤ most := by decide
      simp [addP, wsucc (i := i) (by omega), most]
    | some p =>
      have hne : 0 < a.length := by cases a <;> simp_all
      have hidx : IntKind.i64.wrap (((a.length : Nat) : Int) - 1) = ((a.length - 1 : Nat) : Int) := by
        rw [Go.IntWalk.i64_in _ (by omega)]; omega
      have hg : a[a.length - 1]? = some p := by rw [← hlast, List.getLast?_eq_getElem?]
      have hpos : ((a.length : Nat) : Int) > 0 := by omega
      have hlt : a.length - 1 < a.length := by omega
      simp only [hpos, decide_true, beq_self_eq_true, cond_true, hidx, Int.natCast_nonneg, Int.toNat_natCast, hlt, hg, Option.bind_some, addP, hlast, set_last hlast]
      by_cases h1 : p.1 = e.1
      · by_cases h2 : p.2.1 = e.2.1
        · simp [h1, h2, wsucc (i := i) (by omega)]
        · have hm : (a.length + 1) * (24 + 1) ≤ most := by unfold most; omega
          have e2 : (p.2.1 == e.2.1) = false := by simpa using h2
          simp [h1, h2, e2, wsucc (i := i) (by omega), hm]
      · have hm : (a.length + 1) * (24 + 1) ≤ most := by unfold most; omega
        have e1 : (p.1 == e.1) = false := by simpa using h1
        simp [h1, e1, wsucc (i := i) (by omega), hm]
  · intro a i e a' he hv hs
    simp only [stepS, Option.some.injEq, Sum.inl.injEq] at hs; subst hs
    have := addP_len a e; omega
  · intro a hv
    simp
/-- The entries that parts stand for. -/
def keyE (e : En) : Int × Int := (e.1, e.2.1)
def flatP (out : List En) : List (Int × Int) := out.flatMap fun p => List.replicate p.2.2.toNat (keyE p)
structure GoodP (out : List En) (n : Nat) : Prop where
  pos : ∀ p ∈ out, 1 ≤ p.2.2 ∧ p.2.2 ≤ n
  adj : ∀ (i : Nat) p q, out[i]? = some p → out[i + 1]? = some q → ¬ keyE p = keyE q
theorem snoc_last {α : Type} : ∀ {l : List α} {a : α}, l.getLast? = some a → l = l.dropLast ++ [a]
  | [], a, h => by simp at h
  | [x], a, h => by simp at h; simp [h]
  | x :: y :: l, a, h => by
    have ih := snoc_last (l := y :: l) (a := a) (by simpa using h)
    simp only [List.dropLast_cons_cons, List.cons_append]
    rw [← ih]
theorem addP_good {out : List En} {n : Nat} (g : GoodP out n) (hn : n ≤ 2 ^ 30) (e : En) : GoodP (addP out e) (n + 1) ∧ flatP (addP out e) = flatP out ++ [keyE e] := by
  unfold addP
  cases hl : out.getLast? with
  | none =>
    have : out = [] := by simpa using hl
    subst this
    refine ⟨⟨by simp; omega, ?_⟩, by simp [flatP, keyE]⟩
    intro i p q h1 h2; cases i <;> simp at h2
  | some p =>
    have ho := snoc_last hl
    have hp := g.pos p (by rw [ho]; simp)
    simp only
    split
    · rename_i hk
      have hw : IntKind.i64.wrap (p.2.2 + 1) = p.2.2 + 1 := Go.IntWalk.i64_in _ (by omega)
      rw [hw]
      have hkey : keyE p = keyE e := by simp [keyE, hk.1, hk.2]
      refine ⟨⟨fun q hq => ?_, fun i q r h1 h2 => ?_⟩, ?_⟩
      · rcases List.mem_append.1 hq with hq | hq
        · have := g.pos q (by rw [ho]; simp [hq]); omega
        · simp at hq; subst hq; simp only; omega
      · -- the last one keeps its key
        have key : ∀ (j : Nat) (r : En), (out.dropLast ++ [((p.1, p.2.1, p.2.2 + 1) : En)])[j]? = some r → ∃ r', out[j]? = some r' ∧ keyE r' = keyE r := by
          intro j r hr
          rw [ho]
          rw [List.getElem?_append] at hr ⊢
          split at hr
          · rename_i hlt; rw [if_pos hlt]; exact ⟨r, hr, rfl⟩
          · rename_i hlt; rw [if_neg hlt]
            cases hj : j - out.dropLast.length with
            | zero => rw [hj] at hr; simp at hr; subst hr; exact ⟨p, by simp, rfl⟩
            | succ m => rw [hj] at hr; simp at hr
        obtain ⟨q', a1, a2⟩ := key i q h1
        obtain ⟨r', b1, b2⟩ := key (i + 1) r h2
        rw [← a2, ← b2]; exact g.adj i q' r' a1 b1
      · conv => rhs; rw [ho]
        have : (p.2.2 + 1).toNat = p.2.2.toNat + 1 := by omega
        simp only [flatP, List.flatMap_append, List.flatMap_cons, List.flatMap_nil, List.append_nil, this, List.replicate_succ', List.append_assoc]
        rw [← hkey]; rfl
    · rename_i hk
      refine ⟨⟨fun q hq => ?_, fun i q r h1 h2 => ?_⟩, by simp [flatP, keyE]⟩
      · rcases List.mem_append.1 hq with hq | hq
        · have := g.pos q hq; omega
        · simp at hq; subst hq; simp only; omega
      · rw [List.getElem?_append] at h1 h2
        split at h2
        · rename_i hlt
          rw [if_pos (by omega)] at h1
          exact g.adj i q r h1 h2
        · rename_i hlt
          have hi : i + 1 = out.length := by
            cases hj : i + 1 - out.length with
            | zero => omega
            | succ m => rw [hj] at h2; simp at h2
          rw [if_pos (by omega)] at h1
          rw [hi] at h2; simp at h2; subst h2
          have : out[i]? = some p := by rw [← hl, List.getLast?_eq_getElem?]; congr 1; omega
          rw [this] at h1; injection h1 with h1; subst h1
          intro hh
          simp only [keyE, Prod.mk.injEq] at hh
          exact hk hh
theorem parts_good : ∀ (l out : List En) (n : Nat), GoodP out n → n + l.length ≤ 2 ^ 30 → GoodP (l.foldl addP out) (n + l.length) ∧ flatP (l.foldl addP out) = flatP out ++ l.map keyE
  | [], out, n, g, _ => ⟨by simpa using g, by simp⟩
  | e :: l, out, n, g, hn => by
    simp only [List.length_cons] at hn
    obtain ⟨h1, h2⟩ := addP_good g (by omega) e
    obtain ⟨h3, h4⟩ := parts_good l (addP out e) (n + 1) h1 (by omega)
    refine ⟨by simp only [List.foldl_cons, List.length_cons]; rw [show n + (l.length + 1) = n + 1 + l.length by omega]; exact h3, ?_⟩
    simp only [List.foldl_cons, h4, h2, List.map_cons, List.append_assoc, List.singleton_append]
theorem partsOf_good (l : List En) (h : l.length ≤ 2 ^ 30) : GoodP (partsOf l) l.length ∧ flatP (partsOf l) = l.map keyE := by
  have := parts_good l [] 0 ⟨by simp, by simp⟩ (by omega)
  simpa [partsOf, flatP] using this
theorem flatP_app (a b : List En) : flatP (a ++ b) = flatP a ++ flatP b := by simp [flatP]
theorem flat_at {parts : List En} {i : Nat} {p : En} (h : parts[i]? = some p) : flatP parts = flatP (parts.take i) ++ List.replicate p.2.2.toNat (keyE p) ++ flatP (parts.drop (i + 1)) ∧ flatP (parts.take (i + 1)) = flatP (parts.take i) ++ List.replicate p.2.2.toNat (keyE p) := by
  have h1 : parts.take (i + 1) = parts.take i ++ [p] := by rw [List.take_add_one, h]; rfl
  have h2 : flatP (parts.take (i + 1)) = flatP (parts.take i) ++ List.replicate p.2.2.toNat (keyE p) := by
    rw [h1]; simp [flatP]
  refine ⟨?_, h2⟩
  conv => lhs; rw [← List.take_append_drop (i + 1) parts, flatP_app]
  rw [h2]
theorem audit_parts_law (x : List En) : F_batonlaw42_AuditParts x = some true := by
  unfold F_batonlaw42_AuditParts
  simp only [F_batonlaw42_awake, Option.bind_some, Bool.not_true, cond_false]
  by_cases hlen : ((x.length : Nat) : Int) > 100
  · simp [hlen]
  simp only [hlen, decide_false, cond_false]
  have hx : x.length ≤ 100 := by omega
  rw [parts_eq x (by omega)]
  simp only [Option.bind_some]
  obtain ⟨good, flat⟩ := partsOf_good x (by omega)
  generalize partsOf x = parts at *
  have hfl : (flatP parts).length = x.length := by rw [flat]; simp
  have hpl : parts.length ≤ x.length := by
    rw [← hfl]
    clear flat hfl
    have : ∀ {l : List En}, (∀ p ∈ l, 1 ≤ p.2.2) → l.length ≤ (flatP l).length := by
      intro l
      induction l with
      | nil => intro _; simp
      | cons p l ih =>
        intro h
        have h1 := h p (by simp)
        have h2 := ih (fun q hq => h q (by simp [hq]))
        simp only [flatP, List.flatMap_cons, List.length_append, List.length_replicate, List.length_cons] at h2 ⊢
        omega
    exact this fun p hp => (good.pos p hp).1
  rw [iter_run (l := parts) (mk := fun (a : Int) i => (a, i)) (A := Int) (step := fun a i p => some (.inl (a + p.2.2))) (fin := fun a => some (Sum.inr (a, (parts.length : Int), false))) (fun i a => a = (((flatP (parts.take i)).length : Nat) : Int)) ?_ ?_ ?_ (by simp [flatP])]
  · have key : ∀ (l : List En) (i : Nat) (a : Int), (∀ p ∈ l, 1 ≤ p.2.2) → runL (X := Bool ⊕ (Int × Int × Bool)) (fun a i p => some (.inl (a + p.2.2))) (fun a => some (Sum.inr (a, (parts.length : Int), false))) i a l = some (Sum.inr (a + (((flatP l).length : Nat) : Int), (parts.length : Int), false)) := by
      intro l
      induction l with
      | nil => intro i a _; simp [runL, flatP]
      | cons p l ih =>
        intro i a h
        have h1 := h p (by simp)
        simp only [runL, Option.bind_some]
        rw [ih (i + 1) (a + p.2.2) (fun q hq => h q (by simp [hq]))]
        simp only [flatP, List.flatMap_cons, List.length_append, List.length_replicate]
        congr 3
        omega
    rw [key parts 0 0 (fun p hp => (good.pos p hp).1)]
    simp only [Option.bind_some, hfl]
    simp
  · intro a i p hp ha
    have hi := getE_bound hp
    have hgp := good.pos p (List.mem_of_getElem? hp)
    obtain ⟨f1, f2⟩ := flat_at hp
    have hsum : (flatP (parts.take i)).length + p.2.2.toNat + (flatP (parts.drop (i + 1))).length = x.length := by
      rw [← hfl, f1]; simp only [List.length_append, List.length_replicate]
    have ha0 : 0 ≤ a := by omega
    have w1 : IntKind.i64.wrap (((x.length : Nat) : Int) - a) = ((x.length : Nat) : Int) - a := Go.IntWalk.i64_in _ (by omega)
    have w2 : IntKind.i64.wrap (a + p.2.2) = a + p.2.2 := Go.IntWalk.i64_in _ (by omega)
    have c1 : ((i : Int) < parts.length) := by omega
    have c2 : ¬ p.2.2 < 1 := by omega
    have c3 : ¬ p.2.2 > ((x.length : Nat) : Int) - a := by omega
    simp only [c1, decide_true, cond_true, Int.natCast_nonneg, Int.toNat_natCast, hp, Option.bind_some, c2, decide_false, beq_self_eq_true, w1, c3, w2]
    -- not as the one before
    have hprev : (bif (decide ((i : Int) > 0) == true) then (bif decide (0 ≤ IntKind.i64.wrap ((i : Int) - 1)) then ((parts[(IntKind.i64.wrap ((i : Int) - 1)).toNat]?).bind fun e207 => (bif ((e207.1 == p.1) == true) then (bif decide (0 ≤ IntKind.i64.wrap ((i : Int) - 1)) then ((parts[(IntKind.i64.wrap ((i : Int) - 1)).toNat]?).bind fun e208 => (some (e208.2.1 == p.2.1))) else none) else (some false))) else none) else (some false)) = some false := by
      cases i with
      | zero => simp
      | succ j =>
        have w3 : IntKind.i64.wrap (((j + 1 : Nat) : Int) - 1) = (j : Int) := by rw [Go.IntWalk.i64_in _ (by omega)]; omega
        have hj : j < parts.length := by omega
        have c4 : (((j + 1 : Nat) : Int) > 0) := by omega
        simp only [c4, decide_true, beq_self_eq_true, cond_true, w3, Int.natCast_nonneg, Int.toNat_natCast, List.getElem?_eq_getElem hj, Option.bind_some]
        have hne := good.adj j _ p (List.getElem?_eq_getElem hj) hp
        by_cases h1 : parts[j].1 = p.1
        · by_cases h2 : parts[j].2.1 = p.2.1
          · exact (hne (by simp [keyE, h1, h2])).elim
          · simp [h1]; exact h2
        · have e1 : (parts[j].1 == p.1) = false := by simpa using h1
          simp [e1]
    rw [hprev]
    simp only [Option.bind_some, cond_false]
    -- its entries
    rw [iter_run (l := List.replicate p.2.2.toNat ()) (mk := fun (_ : Unit) k => k) (A := Unit) (step := fun _ _ _ => some (.inl ())) (fin := fun _ => some (Sum.inr (p.2.2, false))) (fun _ _ => True) ?_ ?_ ?_ trivial]
    · have key : ∀ (l : List Unit) (i : Nat), runL (X := Bool ⊕ (Int × Bool)) (fun (_ : Unit) _ (_ : Unit) => some (.inl ())) (fun _ => some (Sum.inr (p.2.2, false))) i () l = some (Sum.inr (p.2.2, false)) := by
        intro l
        induction l with
        | nil => intro i; rfl
        | cons _ l ih => intro i; simp only [runL, Option.bind_some]; exact ih (i + 1)
      rw [key]
      simp [wsucc (i := i) (by omega)]
    · intro _ k _ hk _
      have hk' := getE_bound hk
      simp only [List.length_replicate] at hk'
      have c5 : ((k : Int) < p.2.2) := by omega
      have w4 : IntKind.i64.wrap (a + (k : Int)) = (((flatP (parts.take i)).length + k : Nat) : Int) := by rw [Go.IntWalk.i64_in _ (by omega)]; omega
      have hlt : (flatP (parts.take i)).length + k < x.length := by omega
      have hkey : keyE (x[(flatP (parts.take i)).length + k]) = keyE p := by
        have h1 : (x.map keyE)[(flatP (parts.take i)).length + k]? = some (keyE p) := by
          rw [← flat, f1, List.getElem?_append_left (by simp only [List.length_append, List.length_replicate]; omega), List.getElem?_append_right (by omega)]
          simp only [Nat.add_sub_cancel_left]
          rw [List.getElem?_replicate, if_pos hk']
        rw [List.getElem?_map, List.getElem?_eq_getElem hlt] at h1
        simpa using h1
      simp only [keyE, Prod.mk.injEq] at hkey
      simp only [c5, decide_true, cond_true, w4, Int.natCast_nonneg, Int.toNat_natCast, List.getElem?_eq_getElem hlt, Option.bind_some, hkey.1, hkey.2, bne_self_eq_false, beq_self_eq_true, cond_false, Option.map_some]
      rw [wsucc (i := k) (by omega)]
    · intros; trivial
    · intro _ _
      have : ¬ (((p.2.2.toNat : Nat) : Int) < p.2.2) := by omega
      have e : ((p.2.2.toNat : Nat) : Int) = p.2.2 := by omega
      simp [e]
  · intro a i p a' hp ha hs
    simp only [Option.some.injEq, Sum.inl.injEq] at hs; subst hs
    obtain ⟨f1, f2⟩ := flat_at hp
    have hgp := good.pos p (List.mem_of_getElem? hp)
    rw [f2, ha]; simp only [List.length_append, List.length_replicate]; omega
  · intro a ha; simp
end Go.Ideal.Seat
