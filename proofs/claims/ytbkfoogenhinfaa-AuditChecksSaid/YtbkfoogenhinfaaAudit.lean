/- The plain functions of audit, and what they amount to. -/
import Derived.Test.YtbkfoogenhinfaaSeat
import Derived.Test.YtbkfoogenhinfaaJb
set_option linter.unusedVariables false
set_option linter.unusedSimpArgs false
namespace Go.Ideal.Seat
abbrev En := Int × Int × Int
/-- One more entry. -/
def addP (out : List En) (e : En) : List En := match out.getLast? with
  | some p => if p.1 = e.1 ∧ p.2.1 = e.2.1 then out.dropLast ++ [(p.1, p.2.1, IntKind.i64.wrap (p.2.2 + 1))] else out ++ [(e.1, e.2.1, 1)]
  | none => [(e.1, e.2.1, 1)]
def partsOf (l : List En) : List En := l.foldl addP []
theorem addP_len (out : List En) (e : En) : (addP out e).length ≤ out.length + 1 := by
  unfold addP
  split
  · split <;> simp
  · simp
theorem last_idx {α : Type} {l : List α} (h : 0 < l.length) : IntKind.i64.wrap (((l.length : Nat) : Int) - 1) = ((l.length - 1 : Nat) : Int) ∨ 2 ^ 62 < l.length := by
  by_cases hl : 2 ^ 62 < l.length
  · exact .inr hl
  · left; rw [Go.IntWalk.i64_in _ (by omega)]; omega
theorem set_last {α : Type} : ∀ {l : List α} {a b : α}, l.getLast? = some a → l.set (l.length - 1) b = l.dropLast ++ [b]
  | [], _, _, h => by simp at h
  | [x], a, b, h => by simp
  | x :: y :: l, a, b, h => by
    have ih := set_last (l := y :: l) (a := a) (b := b) (by simpa using h)
    simp only [List.length_cons, Nat.add_sub_cancel] at ih ⊢
    simp only [List.set_cons_succ, List.dropLast_cons_cons, List.cons_append, ih]
theorem parts_eq (l : List En) (h : l.length ≤ 2 ^ 30) : F_audit_Parts l = some (partsOf l) := by
  unfold F_audit_Parts
  rw [iter_run (l := l) (mk := fun (a : List En) i => (a, i)) (step := stepS addP) (fin := fun a => some (a, (l.length : Int), false)) (fun i a => a.length ≤ i) ?_ ?_ ?_ (by simp)]
  · rw [runL_fold]; rfl
  · intro a i e he hv
    have hi := getE_bound he
    have hi' : ((i : Int) < l.length) := by omega
    simp only [hi', decide_true, cond_true, Int.natCast_nonneg, Int.toNat_natCast, he, Option.bind_some, stepS, Option.map_some]
    cases hlast : a.getLast? with
    | none =>
      have : a = [] := by simpa using hlast
      subst this
      have hm : ((0 : Nat) + 1) * (24 + 1) ≤ most := by decide
      simp [addP, wsucc (i := i) (by omega), most]
    | some p =>
      have hne : 0 < a.length := by cases a <;> simp_all
      have hidx : IntKind.i64.wrap (((a.length : Nat) : Int) - 1) = ((a.length - 1 : Nat) : Int) := by
        rw [Go.IntWalk.i64_in _ (by omega)]; omega
      have hg : a[a.length - 1]? = some p := by rw [← hlast, List.getLast?_eq_getElem?]
      have hpos : ((a.length : Nat) : Int) > 0 := by omega
      have hlt : a.length - 1 < a.length := by omega
      simp only [hpos, decide_true, beq_self_eq_true, cond_true, hidx, Int.natCast_nonneg, Int.toNat_natCast, hlt, hg, Option.bind_some, addP, hlast, set_last hlast]
      by_cases h1 : p.1 = e.1
      · by_cases h2 : p.2.1 = e.2.1
        · simp [h1, h2, wsucc (i := i) (by omega)]
        · have hm : (a.length + 1) * (24 + 1) ≤ most := by unfold most; omega
          have e2 : (p.2.1 == e.2.1) = false := by simpa using h2
          simp [h1, h2, e2, wsucc (i := i) (by omega), hm]
      · have hm : (a.length + 1) * (24 + 1) ≤ most := by unfold most; omega
        have e1 : (p.1 == e.1) = false := by simpa using h1
        simp [h1, e1, wsucc (i := i) (by omega), hm]
  · intro a i e a' he hv hs
    simp only [stepS, Option.some.injEq, Sum.inl.injEq] at hs; subst hs
    have := addP_len a e; omega
  · intro a hv
    simp
/-- The entries that parts stand for. -/
def keyE (e : En) : Int × Int := (e.1, e.2.1)
def flatP (out : List En) : List (Int × Int) := out.flatMap fun p => List.replicate p.2.2.toNat (keyE p)
structure GoodP (out : List En) (n : Nat) : Prop where
  pos : ∀ p ∈ out, 1 ≤ p.2.2 ∧ p.2.2 ≤ n
  adj : ∀ (i : Nat) p q, out[i]? = some p → out[i + 1]? = some q → ¬ keyE p = keyE q
theorem snoc_last {α : Type} : ∀ {l : List α} {a : α}, l.getLast? = some a → l = l.dropLast ++ [a]
  | [], a, h => by simp at h
  | [x], a, h => by simp at h; simp [h]
  | x :: y :: l, a, h => by
    have ih := snoc_last (l := y :: l) (a := a) (by simpa using h)
    simp only [List.dropLast_cons_cons, List.cons_append]
    rw [← ih]
theorem addP_good {out : List En} {n : Nat} (g : GoodP out n) (hn : n ≤ 2 ^ 30) (e : En) : GoodP (addP out e) (n + 1) ∧ flatP (addP out e) = flatP out ++ [keyE e] := by
  unfold addP
  cases hl : out.getLast? with
  | none =>
    have : out = [] := by simpa using hl
    subst this
    refine ⟨⟨by simp; omega, ?_⟩, by simp [flatP, keyE]⟩
    intro i p q h1 h2; cases i <;> simp at h2
  | some p =>
    have ho := snoc_last hl
    have hp := g.pos p (by rw [ho]; simp)
    simp only
    split
    · rename_i hk
      have hw : IntKind.i64.wrap (p.2.2 + 1) = p.2.2 + 1 := Go.IntWalk.i64_in _ (by omega)
      rw [hw]
      have hkey : keyE p = keyE e := by simp [keyE, hk.1, hk.2]
      refine ⟨⟨fun q hq => ?_, fun i q r h1 h2 => ?_⟩, ?_⟩
      · rcases List.mem_append.1 hq with hq | hq
        · have := g.pos q (by rw [ho]; simp [hq]); omega
        · simp at hq; subst hq; simp only; omega
      · -- the last one keeps its key
        have key : ∀ (j : Nat) (r : En), (out.dropLast ++ [((p.1, p.2.1, p.2.2 + 1) : En)])[j]? = some r → ∃ r', out[j]? = some r' ∧ keyE r' = keyE r := by
          intro j r hr
          rw [ho]
          rw [List.getElem?_append] at hr ⊢
          split at hr
          · rename_i hlt; rw [if_pos hlt]; exact ⟨r, hr, rfl⟩
          · rename_i hlt; rw [if_neg hlt]
            cases hj : j - out.dropLast.length with
            | zero => rw [hj] at hr; simp at hr; subst hr; exact ⟨p, by simp, rfl⟩
            | succ m => rw [hj] at hr; simp at hr
        obtain ⟨q', a1, a2⟩ := key i q h1
        obtain ⟨r', b1, b2⟩ := key (i + 1) r h2
        rw [← a2, ← b2]; exact g.adj i q' r' a1 b1
      · conv => rhs; rw [ho]
        have : (p.2.2 + 1).toNat = p.2.2.toNat + 1 := by omega
        simp only [flatP, List.flatMap_append, List.flatMap_cons, List.flatMap_nil, List.append_nil, this, List.replicate_succ', List.append_assoc]
        rw [← hkey]; rfl
    · rename_i hk
      refine ⟨⟨fun q hq => ?_, fun i q r h1 h2 => ?_⟩, by simp [flatP, keyE]⟩
      · rcases List.mem_append.1 hq with hq | hq
        · have := g.pos q hq; omega
        · simp at hq; subst hq; simp only; omega
      · rw [List.getElem?_append] at h1 h2
        split at h2
        · rename_i hlt
          rw [if_pos (by omega)] at h1
          exact g.adj i q r h1 h2
        · rename_i hlt
          have hi : i + 1 = out.length := by
            cases hj : i + 1 - out.length with
            | zero => omega
            | succ m => rw [hj] at h2; simp at h2
          rw [if_pos (by omega)] at h1
          rw [hi] at h2; simp at h2; subst h2
          have : out[i]? = some p := by rw [← hl, List.getLast?_eq_getElem?]; congr 1; omega
          rw [this] at h1; injection h1 with h1; subst h1
          intro hh
          simp only [keyE, Prod.mk.injEq] at hh
          exact hk hh
theorem parts_good : ∀ (l out : List En) (n : Nat), GoodP out n → n + l.length ≤ 2 ^ 30 → GoodP (l.foldl addP out) (n + l.length) ∧ flatP (l.foldl addP out) = flatP out ++ l.map keyE
  | [], out, n, g, _ => ⟨by simpa using g, by simp⟩
  | e :: l, out, n, g, hn => by
    simp only [List.length_cons] at hn
    obtain ⟨h1, h2⟩ := addP_good g (by omega) e
    obtain ⟨h3, h4⟩ := parts_good l (addP out e) (n + 1) h1 (by omega)
    refine ⟨by simp only [List.foldl_cons, List.length_cons]; rw [show n + (l.length + 1) = n + 1 + l.length by omega]; exact h3, ?_⟩
    simp only [List.foldl_cons, h4, h2, List.map_cons, List.append_assoc, List.singleton_append]
theorem partsOf_good (l : List En) (h : l.length ≤ 2 ^ 30) : GoodP (partsOf l) l.length ∧ flatP (partsOf l) = l.map keyE := by
  have := parts_good l [] 0 ⟨by simp, by simp⟩ (by omega)
  simpa [partsOf, flatP] using this
theorem flatP_app (a b : List En) : flatP (a ++ b) = flatP a ++ flatP b := by simp [flatP]
theorem flat_at {parts : List En} {i : Nat} {p : En} (h : parts[i]? = some p) : flatP parts = flatP (parts.take i) ++ List.replicate p.2.2.toNat (keyE p) ++ flatP (parts.drop (i + 1)) ∧ flatP (parts.take (i + 1)) = flatP (parts.take i) ++ List.replicate p.2.2.toNat (keyE p) := by
  have h1 : parts.take (i + 1) = parts.take i ++ [p] := by rw [List.take_add_one, h]; rfl
  have h2 : flatP (parts.take (i + 1)) = flatP (parts.take i) ++ List.replicate p.2.2.toNat (keyE p) := by
    rw [h1]; simp [flatP]
  refine ⟨?_, h2⟩
  conv => lhs; rw [← List.take_append_drop (i + 1) parts, flatP_app]
  rw [h2]
theorem audit_parts_law (x : List En) : F_batonlaw42_AuditParts x = some true := by
  unfold F_batonlaw42_AuditParts
  simp only [F_batonlaw42_awake, Option.bind_some, Bool.not_true, cond_false]
  by_cases hlen : ((x.length : Nat) : Int) > 100
  · simp [hlen]
  simp only [hlen, decide_false, cond_false]
  have hx : x.length ≤ 100 := by omega
  rw [parts_eq x (by omega)]
  simp only [Option.bind_some]
  obtain ⟨good, flat⟩ := partsOf_good x (by omega)
  generalize partsOf x = parts at *
  have hfl : (flatP parts).length = x.length := by rw [flat]; simp
  have hpl : parts.length ≤ x.length := by
    rw [← hfl]
    clear flat hfl
    have : ∀ {l : List En}, (∀ p ∈ l, 1 ≤ p.2.2) → l.length ≤ (flatP l).length := by
      intro l
      induction l with
      | nil => intro _; simp
      | cons p l ih =>
        intro h
        have h1 := h p (by simp)
        have h2 := ih (fun q hq => h q (by simp [hq]))
        simp only [flatP, List.flatMap_cons, List.length_append, List.length_replicate, List.length_cons] at h2 ⊢
        omega
    exact this fun p hp => (good.pos p hp).1
  rw [iter_run (l := parts) (mk := fun (a : Int) i => (a, i)) (A := Int) (step := fun a i p => some (.inl (a + p.2.2))) (fin := fun a => some (Sum.inr (a, (parts.length : Int), false))) (fun i a => a = (((flatP (parts.take i)).length : Nat) : Int)) ?_ ?_ ?_ (by simp [flatP])]
  · have key : ∀ (l : List En) (i : Nat) (a : Int), (∀ p ∈ l, 1 ≤ p.2.2) → runL (X := Bool ⊕ (Int × Int × Bool)) (fun a i p => some (.inl (a + p.2.2))) (fun a => some (Sum.inr (a, (parts.length : Int), false))) i a l = some (Sum.inr (a + (((flatP l).length : Nat) : Int), (parts.length : Int), false)) := by
      intro l
      induction l with
      | nil => intro i a _; simp [runL, flatP]
      | cons p l ih =>
        intro i a h
        have h1 := h p (by simp)
        simp only [runL, Option.bind_some]
        rw [ih (i + 1) (a + p.2.2) (fun q hq => h q (by simp [hq]))]
        simp only [flatP, List.flatMap_cons, List.length_append, List.length_replicate]
        congr 3
        omega
    rw [key parts 0 0 (fun p hp => (good.pos p hp).1)]
    simp only [Option.bind_some, hfl]
    simp
  · intro a i p hp ha
    have hi := getE_bound hp
    have hgp := good.pos p (List.mem_of_getElem? hp)
    obtain ⟨f1, f2⟩ := flat_at hp
    have hsum : (flatP (parts.take i)).length + p.2.2.toNat + (flatP (parts.drop (i + 1))).length = x.length := by
      rw [← hfl, f1]; simp only [List.length_append, List.length_replicate]
    have ha0 : 0 ≤ a := by omega
    have w1 : IntKind.i64.wrap (((x.length : Nat) : Int) - a) = ((x.length : Nat) : Int) - a := Go.IntWalk.i64_in _ (by omega)
    have w2 : IntKind.i64.wrap (a + p.2.2) = a + p.2.2 := Go.IntWalk.i64_in _ (by omega)
    have c1 : ((i : Int) < parts.length) := by omega
    have c2 : ¬ p.2.2 < 1 := by omega
    have c3 : ¬ p.2.2 > ((x.length : Nat) : Int) - a := by omega
    simp only [c1, decide_true, cond_true, Int.natCast_nonneg, Int.toNat_natCast, hp, Option.bind_some, c2, decide_false, beq_self_eq_true, w1, c3, w2]
    -- not as the one before
    have hprev : (bif (decide ((i : Int) > 0) == true) then (bif decide (0 ≤ IntKind.i64.wrap ((i : Int) - 1)) then ((parts[(IntKind.i64.wrap ((i : Int) - 1)).toNat]?).bind fun e207 => (bif ((e207.1 == p.1) == true) then (bif decide (0 ≤ IntKind.i64.wrap ((i : Int) - 1)) then ((parts[(IntKind.i64.wrap ((i : Int) - 1)).toNat]?).bind fun e208 => (some (e208.2.1 == p.2.1))) else none) else (some false))) else none) else (some false)) = some false := by
      cases i with
      | zero => simp
      | succ j =>
        have w3 : IntKind.i64.wrap (((j + 1 : Nat) : Int) - 1) = (j : Int) := by rw [Go.IntWalk.i64_in _ (by omega)]; omega
        have hj : j < parts.length := by omega
        have c4 : (((j + 1 : Nat) : Int) > 0) := by omega
        simp only [c4, decide_true, beq_self_eq_true, cond_true, w3, Int.natCast_nonneg, Int.toNat_natCast, List.getElem?_eq_getElem hj, Option.bind_some]
        have hne := good.adj j _ p (List.getElem?_eq_getElem hj) hp
        by_cases h1 : parts[j].1 = p.1
        · by_cases h2 : parts[j].2.1 = p.2.1
          · exact (hne (by simp [keyE, h1, h2])).elim
          · simp [h1]; exact h2
        · have e1 : (parts[j].1 == p.1) = false := by simpa using h1
          simp [e1]
    rw [hprev]
    simp only [Option.bind_some, cond_false]
    -- its entries
    rw [iter_run (l := List.replicate p.2.2.toNat ()) (mk := fun (_ : Unit) k => k) (A := Unit) (step := fun _ _ _ => some (.inl ())) (fin := fun _ => some (Sum.inr (p.2.2, false))) (fun _ _ => True) ?_ ?_ ?_ trivial]
    · have key : ∀ (l : List Unit) (i : Nat), runL (X := Bool ⊕ (Int × Bool)) (fun (_ : Unit) _ (_ : Unit) => some (.inl ())) (fun _ => some (Sum.inr (p.2.2, false))) i () l = some (Sum.inr (p.2.2, false)) := by
        intro l
        induction l with
        | nil => intro i; rfl
        | cons _ l ih => intro i; simp only [runL, Option.bind_some]; exact ih (i + 1)
      rw [key]
      simp [wsucc (i := i) (by omega)]
    · intro _ k _ hk _
      have hk' := getE_bound hk
      simp only [List.length_replicate] at hk'
      have c5 : ((k : Int) < p.2.2) := by omega
      have w4 : IntKind.i64.wrap (a + (k : Int)) = (((flatP (parts.take i)).length + k : Nat) : Int) := by rw [Go.IntWalk.i64_in _ (by omega)]; omega
      have hlt : (flatP (parts.take i)).length + k < x.length := by omega
      have hkey : keyE (x[(flatP (parts.take i)).length + k]) = keyE p := by
        have h1 : (x.map keyE)[(flatP (parts.take i)).length + k]? = some (keyE p) := by
          rw [← flat, f1, List.getElem?_append_left (by simp only [List.length_append, List.length_replicate]; omega), List.getElem?_append_right (by omega)]
          simp only [Nat.add_sub_cancel_left]
          rw [List.getElem?_replicate, if_pos hk']
        rw [List.getElem?_map, List.getElem?_eq_getElem hlt] at h1
        simpa using h1
      simp only [keyE, Prod.mk.injEq] at hkey
      simp only [c5, decide_true, cond_true, w4, Int.natCast_nonneg, Int.toNat_natCast, List.getElem?_eq_getElem hlt, Option.bind_some, hkey.1, hkey.2, bne_self_eq_false, beq_self_eq_true, cond_false, Option.map_some]
      rw [wsucc (i := k) (by omega)]
    · intros; trivial
    · intro _ _
      have : ¬ (((p.2.2.toNat : Nat) : Int) < p.2.2) := by omega
      have e : ((p.2.2.toNat : Nat) : Int) = p.2.2 := by omega
      simp [e]
  · intro a i p a' hp ha hs
    simp only [Option.some.injEq, Sum.inl.injEq] at hs; subst hs
    obtain ⟨f1, f2⟩ := flat_at hp
    have hgp := good.pos p (List.mem_of_getElem? hp)
    rw [f2, ha]; simp only [List.length_append, List.length_replicate]; omega
  · intro a ha; simp
end Go.Ideal.Seat
set_option linter.unusedVariables false
set_option linter.unusedSimpArgs false
namespace Go.Ideal.Seat
abbrev Td := Int × Int × List Int
def addOf (e d : Int) (acc : List Int) (t : Td) : List Int := if t.1 = e ∧ t.2.1 = d then acc ++ t.2.2 else acc
def ofs (l : List Td) (e d : Int) : List Int := l.foldl (addOf e d) []
theorem addOf_len {e d : Int} {acc : List Int} {t : Td} {n : Nat} (h : t.2.2.length ≤ 100) (ha : acc.length ≤ n * 100) : (addOf e d acc t).length ≤ (n + 1) * 100 := by
  unfold addOf; split
  · simp only [List.length_append]; omega
  · omega
theorem of_eq (l : List Td) (e d : Int) (hl : l.length ≤ 20) (hb : ∀ t ∈ l, t.2.2.length ≤ 100) : F_audit_Of (l, e, d) = some (ofs l e d) := by
  unfold F_audit_Of
  rw [iter_run (l := l) (mk := fun (a : List Int) i => (a, i)) (step := stepS (addOf e d)) (fin := fun a => some (a, (l.length : Int), false)) (fun i a => a.length ≤ i * 100) ?_ ?_ ?_ (by simp)]
  · rw [runL_fold]; rfl
  · intro a i t ht hv
    have hi := getE_bound ht
    have hi' : ((i : Int) < l.length) := by omega
    have htb := hb t (List.mem_of_getElem? ht)
    have hm : (a.length + t.2.2.length) * (1 + 1) ≤ most := by unfold most; omega
    simp only [hi', decide_true, cond_true, Int.natCast_nonneg, Int.toNat_natCast, ht, Option.bind_some, stepS, Option.map_some, addOf]
    by_cases h1 : t.1 = e
    · by_cases h2 : t.2.1 = d
      · simp [h1, h2, hm, wsucc (i := i) (by omega)]
      · have e2 : (t.2.1 == d) = false := by simpa using h2
        simp [h1, h2, e2, wsucc (i := i) (by omega)]
    · have e1 : (t.1 == e) = false := by simpa using h1
      simp [h1, e1, wsucc (i := i) (by omega)]
  · intro a i t a' ht hv hs
    simp only [stepS, Option.some.injEq, Sum.inl.injEq] at hs; subst hs
    exact addOf_len (hb t (List.mem_of_getElem? ht)) hv
  · intro a hv; simp
theorem rof_eq (l : List Td) (e d : Int) (hl : l.length ≤ 20) (hb : ∀ t ∈ l, t.2.2.length ≤ 100) : F_batonref42_Of (l, e, d) = some (ofs l e d) := by
  unfold F_batonref42_Of
  rw [iter_run (l := l) (mk := fun (a : List Int) i => (a, i)) (step := stepS (addOf e d)) (fin := fun a => some (a, (l.length : Int), false)) (fun i a => a.length ≤ i * 100) ?_ ?_ ?_ (by simp)]
  · rw [runL_fold]; rfl
  · intro a i t ht hv
    have hi := getE_bound ht
    have hi' : ((i : Int) < l.length) := by omega
    have htb := hb t (List.mem_of_getElem? ht)
    have hm : (a.length + t.2.2.length) * (1 + 1) ≤ most := by unfold most; omega
    simp only [hi', decide_true, cond_true, Int.natCast_nonneg, Int.toNat_natCast, ht, Option.bind_some, stepS, Option.map_some, addOf]
    by_cases h1 : t.1 = e
    · by_cases h2 : t.2.1 = d
      · simp [h1, h2, hm, wsucc (i := i) (by omega)]
      · have e2 : (t.2.1 == d) = false := by simpa using h2
        simp [h1, h2, e2, wsucc (i := i) (by omega)]
    · have e1 : (t.1 == e) = false := by simpa using h1
      simp [h1, e1, wsucc (i := i) (by omega)]
  · intro a i t a' ht hv hs
    simp only [stepS, Option.some.injEq, Sum.inl.injEq] at hs; subst hs
    exact addOf_len (hb t (List.mem_of_getElem? ht)) hv
  · intro a hv; simp
theorem same_self (a : List Int) (h : a.length ≤ 2 ^ 40) : F_batonref01_Same (a, a) = some true := by
  unfold F_batonref01_Same
  simp only [bne_self_eq_false, cond_false]
  rw [iter_run (l := a) (mk := fun (_ : Unit) i => i) (step := fun _ _ _ => some (.inl ())) (fin := fun _ => some (Sum.inr ((a.length : Int), false))) (fun _ _ => True) ?_ (by intros; trivial) (by intros; simp) trivial]
  · have key : ∀ (l : List Int) (i : Nat), runL (X := Bool ⊕ (Int × Bool)) (fun (_ : Unit) _ (_ : Int) => some (.inl ())) (fun _ => some (Sum.inr ((a.length : Int), false))) i () l = some (Sum.inr ((a.length : Int), false)) := by
      intro l
      induction l with
      | nil => intro i; rfl
      | cons _ l ih => intro i; simp only [runL, Option.bind_some]; exact ih (i + 1)
    rw [key]; rfl
  · intro _ i e he _
    have hi := getE_bound he
    have hi' : ((i : Int) < a.length) := by omega
    simp [hi', he, wsucc (i := i) (by omega)]
theorem foldl_snoc {α : Type} (l : List α) : ∀ acc : List α, l.foldl (fun a e => a ++ [e]) acc = acc ++ l := by
  induction l with
  | nil => intro acc; simp
  | cons e l ih => intro acc; simp [ih]
theorem ref33_eq (l : List En) (h : l.length ≤ 2 ^ 30) : F_batonlaw33_Ref l = some l := by
  unfold F_batonlaw33_Ref
  rw [iter_run (l := l) (mk := fun (a : List En) i => (a, i)) (step := stepS (fun a e => a ++ [e])) (fin := fun a => some (a, (l.length : Int), false)) (fun i a => a.length ≤ i) ?_ ?_ ?_ (by simp)]
  · rw [runL_fold, foldl_snoc]; rfl
  · intro a i t ht hv
    have hi := getE_bound ht
    have hi' : ((i : Int) < l.length) := by omega
    have hm : (a.length + 1) * (24 + 1) ≤ most := by unfold most; omega
    simp [hi', ht, stepS, hm, wsucc (i := i) (by omega)]
  · intro a i t a' ht hv hs
    simp only [stepS, Option.some.injEq, Sum.inl.injEq] at hs; subst hs
    simp; omega
  · intro a hv; simp
theorem ref42_eq (l : List Td) (h : l.length ≤ 2 ^ 30) : F_batonlaw42_ref l = some l := by
  unfold F_batonlaw42_ref
  rw [iter_run (l := l) (mk := fun (a : List Td) i => (a, i)) (step := stepS (fun a e => a ++ [e])) (fin := fun a => some (a, (l.length : Int), false)) (fun i a => a.length ≤ i) ?_ ?_ ?_ (by simp)]
  · rw [runL_fold, foldl_snoc]; rfl
  · intro a i t ht hv
    have hi := getE_bound ht
    have hi' : ((i : Int) < l.length) := by omega
    have hm : (a.length + 1) * (40 + 1) ≤ most := by unfold most; omega
    simp [hi', ht, stepS, hm, wsucc (i := i) (by omega)]
  · intro a i t a' ht hv hs
    simp only [stepS, Option.some.injEq, Sum.inl.injEq] at hs; subst hs
    simp; omega
  · intro a hv; simp
/-! the check -/
def cnt (given : List En) (i : Nat) (e : Int) : Nat := ((given.take i).filter fun x => x.1 = e).length
/-- What is wrong with an entry, if anything. -/
def chk (given : List En) (typed : List Td) (i : Nat) (e : En) : Option Int :=
  match (if i = 0 then none else given[i - 1]?) with
  | some p => if e.1 < p.1 then some 9 else if e.1 = p.1 ∧ e.2.1 ≠ p.2.1 then some 10 else if (ofs typed e.1 e.2.1)[cnt given i e.1]? = some e.2.2 then none else some 20
  | none => if (ofs typed e.1 e.2.1)[cnt given i e.1]? = some e.2.2 then none else some 20
abbrev X1 := (Int × Int) ⊕ (Int × Bool)
def stepC (given : List En) (typed : List Td) : Unit → Nat → En → Option (Unit ⊕ X1) := fun _ i e => match chk given typed i e with
  | some code => some (.inr (.inl ((i : Int), code)))
  | none => some (.inl ())
end Go.Ideal.Seat
set_option linter.unusedVariables false
set_option linter.unusedSimpArgs false
namespace Go.Ideal.Seat
theorem cnt_fold (e : Int) : ∀ (l : List En) (n : Nat), l.foldl (fun (n : Nat) x => if x.1 = e then n + 1 else n) n = n + (l.filter fun x => decide (x.1 = e)).length
  | [], n => by simp
  | x :: l, n => by
    simp only [List.foldl_cons]
    rw [cnt_fold e l]
    by_cases h : x.1 = e
    · simp [h]; omega
    · simp [h]
theorem cnt_loop (given : List En) (i : Nat) (e : Int) (hi : i ≤ given.length) (hl : given.length ≤ 2 ^ 30) :
    iterL (S := Int × Int) (X := Int × Int × Bool) (fun s209 => (bif (decide (s209.2 < (i : Int))) then ((bif decide (0 ≤ s209.2) then ((given[(s209.2).toNat]?).bind fun e210 => (bif (e210.1 == e) then (some (IntKind.wrap .i64 (s209.1 + 1))) else (some s209.1))) else none).bind fun v211 => (some (Sum.inl (v211, (IntKind.wrap .i64 (s209.2 + 1)))))) else (some (Sum.inr (s209.1, s209.2, (decide (s209.2 < (i : Int)))))))) (0, 0) = some (((cnt given i e : Nat) : Int), (i : Int), false) := by
  have hlen : (given.take i).length = i := by simp; omega
  refine (iter_run (l := given.take i) (mk := fun (n : Nat) k => ((n : Int), k)) (step := stepS (fun (n : Nat) x => if x.1 = e then n + 1 else n)) (fin := fun n => some ((n : Int), (i : Int), false)) (fun k n => n ≤ k) ?_ ?_ ?_ (a := 0) (by simp)).trans ?_
  · intro n k x hx hv
    have hk := getE_bound hx
    rw [hlen] at hk
    have hk' : ((k : Int) < i) := by omega
    have hx' : given[k]? = some x := by rw [List.getElem?_take, if_pos hk] at hx; exact hx
    simp only [hk', decide_true, cond_true, Int.natCast_nonneg, Int.toNat_natCast, hx', Option.bind_some, stepS, Option.map_some]
    by_cases h : x.1 = e
    · simp only [h, beq_self_eq_true, cond_true, Option.bind_some, if_true]
      rw [wsucc (i := n) (by omega), wsucc (i := k) (by omega)]
    · have e1 : (x.1 == e) = false := by simpa using h
      simp only [e1, cond_false, Option.bind_some, if_neg h]
      rw [wsucc (i := k) (by omega)]
  · intro n k x n' hx hv hs
    simp only [stepS, Option.some.injEq, Sum.inl.injEq] at hs; subst hs
    split <;> omega
  · intro n hv
    rw [hlen]; simp
  · rw [runL_fold, cnt_fold]; simp [cnt]
def outX (n : Int) : X1 → Int × Int
  | .inl v => v
  | .inr _ => (n, 0)
theorem refcheck_eq (given : List En) (typed : List Td) (hg : given.length ≤ 60) (hl : typed.length ≤ 20) (hb : ∀ t ∈ typed, t.2.2.length ≤ 100) :
    F_batonref42_Check (given, typed) = (runL (stepC given typed) (fun _ => some (Sum.inr ((given.length : Int), false))) 0 () given).map (outX given.length) := by
  unfold F_batonref42_Check
  rw [iter_run (l := given) (mk := fun (_ : Unit) i => i) (step := stepC given typed) (fin := fun _ => some (Sum.inr ((given.length : Int), false))) (fun _ _ => True) ?_ (by intros; trivial) (by intros; simp) trivial]
  · cases runL (stepC given typed) (fun _ => some (Sum.inr ((given.length : Int), false))) 0 () given with
    | none => rfl
    | some y => cases y <;> rfl
  · intro _ i e he _
    have hi := getE_bound he
    have hi' : ((i : Int) < given.length) := by omega
    have hcl := cnt_loop given i e.1 (by omega) (by omega)
    simp only [hi', decide_true, cond_true, Int.natCast_nonneg, Int.toNat_natCast, he, Option.bind_some, rof_eq typed e.1 e.2.1 hl hb, hcl]
    -- what comes last
    have hlast : ((bif ((decide (((cnt given i e.1 : Nat) : Int) ≥ ((((ofs typed e.1 e.2.1).length) : Nat) : Int))) == false) then (((ofs typed e.1 e.2.1)[cnt given i e.1]?).bind fun e214 => (some (e214 != e.2.2))) else (some true)).bind fun v215 => (bif v215 then (some (Sum.inr (Sum.inl ((i : Int), (20 : Int))))) else (some (Sum.inl (IntKind.wrap .i64 ((i : Int) + 1)))))) =
        (some (if (ofs typed e.1 e.2.1)[cnt given i e.1]? = some e.2.2 then Sum.inl (((i + 1 : Nat)) : Int) else Sum.inr (Sum.inl ((i : Int), (20 : Int)))) : Option (Int ⊕ X1)) := by
      by_cases hc : cnt given i e.1 < (ofs typed e.1 e.2.1).length
      · have hc' : ¬ (((cnt given i e.1 : Nat) : Int) ≥ ((((ofs typed e.1 e.2.1).length) : Nat) : Int)) := by omega
        simp only [hc', decide_false, beq_self_eq_true, cond_true, List.getElem?_eq_getElem hc, Option.bind_some, Option.some.injEq]
        by_cases hq : (ofs typed e.1 e.2.1)[cnt given i e.1] = e.2.2
        · simp only [hq, bne_self_eq_false, cond_false, if_true]
          rw [wsucc (i := i) (by omega)]
        · have : ((ofs typed e.1 e.2.1)[cnt given i e.1] != e.2.2) = true := by simpa using hq
          simp [this, hq]
      · have hc' : (((cnt given i e.1 : Nat) : Int) ≥ ((((ofs typed e.1 e.2.1).length) : Nat) : Int)) := by omega
        have hn : (ofs typed e.1 e.2.1)[cnt given i e.1]? = none := by simp; omega
        simp [hc', hn]
    by_cases h0 : i = 0
    · have hn : ¬ ((i : Int) > 0) := by omega
      simp only [hn, decide_false, show (false == true) = false from rfl, cond_false, Option.bind_some, hlast, stepC, chk, if_pos h0]
      split <;> simp_all
    · have hn : ((i : Int) > 0) := by omega
      have hw : IntKind.i64.wrap ((i : Int) - 1) = ((i - 1 : Nat) : Int) := by rw [Go.IntWalk.i64_in _ (by omega)]; omega
      have hp : i - 1 < given.length := by omega
      simp only [hn, decide_true, beq_self_eq_true, cond_true, hw, Int.natCast_nonneg, Int.toNat_natCast, List.getElem?_eq_getElem hp, Option.bind_some, hlast, stepC, chk, if_neg h0]
      by_cases h1 : e.1 < given[i - 1].1
      · simp [h1]
      · by_cases h2 : e.1 = given[i - 1].1
        · by_cases h3 : e.2.1 = given[i - 1].2.1
          · simp only [h1, decide_false, cond_false, h2, h3, beq_self_eq_true, cond_true, Option.bind_some, bne_self_eq_false, if_false, ne_eq, not_true, and_false]
            split <;> simp_all
          · have : (e.2.1 != given[i - 1].2.1) = true := by simpa using h3
            simp [h1, h2, h3, this]
        · have : (e.1 == given[i - 1].1) = false := by simpa using h2
          simp only [h1, decide_false, cond_false, this, show (false == true) = false from rfl, Option.bind_some, if_false, h2, false_and]
          split <;> simp_all
end Go.Ideal.Seat
set_option linter.unusedVariables false
set_option linter.unusedSimpArgs false
namespace Go.Ideal.Seat
/-- The first entry of a part that wasn't typed. -/
def bad (own : List Int) : Nat → List En → Option Nat
  | _, [] => none
  | k, e :: r => if own[k]? = some e.2.2 then bad own (k + 1) r else some k
abbrev XA := (Int × Int) ⊕ (Int × Int × Int × Int × Int × Bool)
def outA : XA → Int × Int
  | .inl v => v
  | .inr w => (w.1, 0)
abbrev finC (given : List En) : Unit → Option X1 := fun _ => some (Sum.inr ((given.length : Int), false))
theorem inner_run {at' : Nat} {x : List En} {own : List Int} : ∀ (seg : List En) (k : Nat), runL (E := En) (X := (Int × Int) ⊕ (Int × Bool)) (fun (_ : Unit) k e => if own[k]? = some e.2.2 then some (.inl ()) else some (.inr (.inl (((at' + k : Nat) : Int), (20 : Int))))) (fun _ => some (Sum.inr (((k + seg.length : Nat) : Int), false))) k () seg =
    some (match bad own k seg with | some j => Sum.inl (((at' + j : Nat) : Int), (20 : Int)) | none => Sum.inr (((k + seg.length : Nat) : Int), false))
  | [], k => by simp [runL, bad]
  | e :: seg, k => by
    simp only [runL, bad]
    split
    · have := inner_run (at' := at') (x := x) (own := own) seg (k + 1)
      simp only [List.length_cons, Option.bind_some]
      rw [show k + (seg.length + 1) = k + 1 + seg.length by omega]
      exact this
    · rfl
theorem inner_loop (given : List En) (own : List Int) (at' : Nat) (seg rest : List En) (hs : given.drop at' = seg ++ rest) (hl : given.length ≤ 2 ^ 30) (ha : at' ≤ given.length) (N : Int) (hN : N = ((seg.length : Nat) : Int)) :
    iterL (S := Int) (X := ((Int) × Int) ⊕ ((Int) × Bool)) (fun s202 => (bif (decide (s202 < N)) then ((bif ((decide (s202 ≥ (((own.length) : Nat) : Int))) == false) then (bif decide (0 ≤ s202) then ((own[(s202).toNat]?).bind fun e203 => (bif decide (0 ≤ (IntKind.wrap .i64 ((at' : Int) + s202))) then ((given[((IntKind.wrap .i64 ((at' : Int) + s202))).toNat]?).bind fun e204 => (some (e203 != e204.2.2))) else none)) else none) else (some true)).bind fun v205 => (bif v205 then (some (Sum.inr (Sum.inl ((IntKind.wrap .i64 ((at' : Int) + s202)), 20)))) else (some (Sum.inl (IntKind.wrap .i64 (s202 + 1)))))) else (some (Sum.inr (Sum.inr (s202, (decide (s202 < N)))))))) 0 =
      some (match bad own 0 seg with | some j => Sum.inl (((at' + j : Nat) : Int), (20 : Int)) | none => Sum.inr (((seg.length : Nat) : Int), false)) := by
  subst hN
  have hlen : seg.length + rest.length + at' = given.length := by
    have := congrArg List.length hs
    simp only [List.length_drop, List.length_append] at this; omega
  refine (iter_run (l := seg) (mk := fun (_ : Unit) i => i) (step := fun (_ : Unit) k e => if own[k]? = some e.2.2 then some (.inl ()) else some (.inr (.inl (((at' + k : Nat) : Int), (20 : Int))))) (fin := fun _ => some (Sum.inr (((0 + seg.length : Nat) : Int), false))) (fun _ _ => True) ?_ (by intros; trivial) (by intros; simp) (a := ()) trivial).trans ?_
  · intro _ k e he _
    have hk := getE_bound he
    have hk' : ((k : Int) < ((seg.length : Nat) : Int)) := by omega
    have w : IntKind.i64.wrap ((at' : Int) + (k : Int)) = ((at' + k : Nat) : Int) := by rw [Go.IntWalk.i64_in _ (by omega)]; omega
    have hg : given[at' + k]? = some e := by
      have : (given.drop at')[k]? = some e := by rw [hs, List.getElem?_append_left hk]; exact he
      rwa [List.getElem?_drop] at this
    simp only [hk', decide_true, cond_true, w, Int.natCast_nonneg, Int.toNat_natCast, hg, Option.bind_some]
    by_cases hc : k < own.length
    · have hc' : ¬ ((k : Int) ≥ ((own.length : Nat) : Int)) := by omega
      simp only [hc', decide_false, beq_self_eq_true, cond_true, List.getElem?_eq_getElem hc, Option.bind_some, Option.some.injEq]
      by_cases hq : own[k] = e.2.2
      · simp only [hq, bne_self_eq_false, cond_false, if_true, Option.map_some]
        rw [wsucc (i := k) (by omega)]
      · have : (own[k] != e.2.2) = true := by simpa using hq
        simp [this, hq]
    · have hc' : ((k : Int) ≥ ((own.length : Nat) : Int)) := by omega
      have hn : own[k]? = none := by simp; omega
      simp [hc', hn]
  · have := inner_run (at' := at') (x := given) (own := own) seg 0
    simpa using this
/-- An entry within a part. -/
theorem chk_seg {given : List En} {typed : List Td} {at' : Nat} {seg rest : List En} {e0 d0 : Int} (hs : given.drop at' = seg ++ rest) (hk : ∀ e ∈ seg, e.1 = e0 ∧ e.2.1 = d0) (hb : ∀ e ∈ given.take at', e.1 < e0) {j : Nat} {e : En} (he : seg[j]? = some e) :
    chk given typed (at' + j) e = if (ofs typed e0 d0)[j]? = some e.2.2 then none else some 20 := by
  have hj := getE_bound he
  have hlen : seg.length + rest.length + at' = given.length ∨ given.length < at' := by
    have := congrArg List.length hs
    simp only [List.length_drop, List.length_append] at this; omega
  have hat : at' ≤ given.length := by
    rcases hlen with h | h
    · omega
    · have := congrArg List.length hs
      simp only [List.length_drop, List.length_append] at this; omega
  obtain ⟨k1, k2⟩ := hk e (List.mem_of_getElem? he)
  have hcnt : cnt given (at' + j) e0 = j := by
    unfold cnt
    have ht : given.take (at' + j) = given.take at' ++ seg.take j := by
      rw [List.take_add]
      rw [hs, List.take_append_of_le_length (by omega)]
    rw [ht, List.filter_append, List.length_append]
    have z1 : ((given.take at').filter fun x => decide (x.1 = e0)) = [] := by
      rw [List.filter_eq_nil_iff]; intro x hx; have := hb x hx; simp; omega
    have z2 : ((seg.take j).filter fun x => decide (x.1 = e0)) = seg.take j := by
      rw [List.filter_eq_self]; intro x hx; simp [(hk x (List.mem_of_mem_take hx)).1]
    rw [z1, z2]; simp; omega
  -- the entry ahead
  have hprev : ∀ p, given[at' + j - 1]? = some p → at' + j ≠ 0 → (p.1 < e0 ∨ (p.1 = e0 ∧ p.2.1 = d0)) := by
    intro p hp h0
    cases j with
    | zero =>
      left
      have : at' - 1 < at' := by omega
      refine hb p ?_
      have h1 : (given.take at')[at' - 1]? = some p := by rw [List.getElem?_take, if_pos this]; simpa using hp
      exact List.mem_of_getElem? h1
    | succ j =>
      right
      have h1 : (given.drop at')[j]? = some p := by rw [List.getElem?_drop]; rw [← hp]; congr 1
      rw [hs, List.getElem?_append_left (by omega)] at h1
      exact hk p (List.mem_of_getElem? h1)
  unfold chk
  rw [k1, k2, hcnt]
  by_cases h0 : at' + j = 0
  · simp only [if_pos h0]
  · simp only [if_neg h0]
    have hp : at' + j - 1 < given.length := by
      rcases hlen with h | h <;> omega
    rw [List.getElem?_eq_getElem hp]
    rcases hprev _ (List.getElem?_eq_getElem hp) h0 with h | ⟨h1, h2⟩
    · simp only [if_neg (show ¬ e0 < (given[at' + j - 1]).1 by omega), if_neg (show ¬ (e0 = (given[at' + j - 1]).1 ∧ d0 ≠ (given[at' + j - 1]).2.1) by omega)]
    · simp only [if_neg (show ¬ e0 < (given[at' + j - 1]).1 by omega), if_neg (show ¬ (e0 = (given[at' + j - 1]).1 ∧ d0 ≠ (given[at' + j - 1]).2.1) by rw [h2]; simp)]
theorem run_seg {given : List En} {typed : List Td} {at' : Nat} {seg rest : List En} {e0 d0 : Int} (hs : given.drop at' = seg ++ rest) (hk : ∀ e ∈ seg, e.1 = e0 ∧ e.2.1 = d0) (hb : ∀ e ∈ given.take at', e.1 < e0) :
    ∀ (r : List En) (j : Nat), seg.drop j = r → j ≤ seg.length → runL (stepC given typed) (finC given) (at' + j) () (r ++ rest) =
      match bad (ofs typed e0 d0) j r with | some k => some (.inl (((at' + k : Nat) : Int), (20 : Int))) | none => runL (stepC given typed) (finC given) (at' + seg.length) () rest
  | [], j, h, hj => by
    have hl : j = seg.length := by
      have := congrArg List.length h; simp at this; omega
    subst hl
    simp [bad]
  | e :: r, j, h, hj => by
    have he : seg[j]? = some e := by
      have : (seg.drop j)[0]? = some e := by rw [h]; rfl
      simpa using this
    have hj' := getE_bound he
    have hr : seg.drop (j + 1) = r := by
      have := congrArg List.tail h
      simpa using this
    have ih := run_seg (typed := typed) hs hk hb r (j + 1) hr hj'
    have hc := chk_seg (typed := typed) hs hk hb he
    simp only [List.cons_append, runL, stepC, hc, bad]
    by_cases hq : (ofs typed e0 d0)[j]? = some e.2.2
    · simp only [if_pos hq, Option.bind_some]
      rw [show at' + j + 1 = at' + (j + 1) by omega]
      exact ih
    · simp only [if_neg hq, Option.bind_some]
end Go.Ideal.Seat
set_option linter.unusedVariables false
set_option linter.unusedSimpArgs false
namespace Go.Ideal.Seat
abbrev AS := Nat × En
def stepA (given : List En) (typed : List Td) : AS → Nat → En → Option (AS ⊕ XA) := fun a i p =>
  if 0 < a.1 ∧ p.1 < a.2.1 then some (.inr (.inl ((a.1 : Int), 9))) else if 0 < a.1 ∧ p.1 = a.2.1 then some (.inr (.inl ((a.1 : Int), 10))) else
    match bad (ofs typed p.1 p.2.1) 0 ((given.drop a.1).take p.2.2.toNat) with
    | some j => some (.inr (.inl (((a.1 + j : Nat) : Int), 20)))
    | none => match given[a.1 + p.2.2.toNat - 1]? with
      | some e => some (.inl (a.1 + p.2.2.toNat, e))
      | none => none
def finA (n : Nat) : AS → Option XA := fun a => some (.inr ((a.1 : Int), a.2.1, a.2.2.1, a.2.2.2, (n : Int), false))
theorem seg_keys {given parts : List En} (flat : flatP parts = given.map keyE) {pre ps : List En} {p : En} (hp : parts = pre ++ p :: ps) {n : Nat} (hn : n = (flatP pre).length) :
    n + p.2.2.toNat ≤ given.length ∧ (∀ e ∈ (given.drop n).take p.2.2.toNat, e.1 = p.1 ∧ e.2.1 = p.2.1) ∧ flatP (pre ++ [p]) = flatP pre ++ List.replicate p.2.2.toNat (keyE p) := by
  have h1 : given.map keyE = flatP pre ++ List.replicate p.2.2.toNat (keyE p) ++ flatP ps := by
    rw [← flat, hp]; simp [flatP]
  have hl : n + p.2.2.toNat ≤ given.length := by
    have := congrArg List.length h1
    simp only [List.length_map, List.length_append, List.length_replicate] at this; omega
  refine ⟨hl, fun e he => ?_, by simp [flatP]⟩
  have h2 : ((given.drop n).take p.2.2.toNat).map keyE = List.replicate p.2.2.toNat (keyE p) := by
    rw [List.map_take, List.map_drop, h1, hn, List.append_assoc, List.drop_left, List.take_left' (by simp)]
  have h3 : keyE e ∈ List.replicate p.2.2.toNat (keyE p) := by rw [← h2]; exact List.mem_map.2 ⟨e, he, rfl⟩
  have h4 := (List.mem_replicate.1 h3).2
  simp only [keyE, Prod.mk.injEq] at h4
  exact h4
theorem parts_run {given parts : List En} {typed : List Td} (flat : flatP parts = given.map keyE) (good : GoodP parts given.length) :
    ∀ (ps pre : List En) (n : Nat) (pr : En), parts = pre ++ ps → n = (flatP pre).length → (0 < n → given[n - 1]? = some pr ∧ ∀ e ∈ given.take n, e.1 ≤ pr.1) →
      (runL (stepA given typed) (finA parts.length) pre.length (n, pr) ps).map outA = (runL (stepC given typed) (finC given) n () (given.drop n)).map (outX given.length)
  | [], pre, n, pr, hp, hn, hpr => by
    simp only [List.append_nil] at hp
    have : n = given.length := by rw [hn, ← hp, flat]; simp
    subst this
    simp [runL, finA, finC, outA, outX]
  | p :: ps, pre, n, pr, hp, hn, hpr => by
    obtain ⟨hl, hkeys, hfl⟩ := seg_keys flat hp hn
    have hidx : parts[pre.length]? = some p := by rw [hp]; simp
    have hgp := good.pos p (List.mem_of_getElem? hidx)
    generalize hN : p.2.2.toNat = N at *
    have hN1 : 1 ≤ N := by omega
    have hs : given.drop n = (given.drop n).take N ++ given.drop (n + N) := by rw [← List.drop_drop, List.take_append_drop]
    have hsl : ((given.drop n).take N).length = N := by simp; omega
    obtain ⟨e0, seg', hseg⟩ : ∃ e0 seg', (given.drop n).take N = e0 :: seg' := by
      cases h : (given.drop n).take N with
      | nil => rw [h] at hsl; simp at hsl; omega
      | cons a b => exact ⟨a, b, rfl⟩
    have he0 := hkeys e0 (by rw [hseg]; simp)
    have hn0 : given[n]? = some e0 := by
      have : (given.drop n)[0]? = some e0 := by rw [hs, hseg]; rfl
      rw [List.getElem?_drop] at this; simpa using this
    -- the key ahead is another one
    have hdiff : 0 < n → keyE pr ≠ keyE p := fun h0 => by
      obtain ⟨h1, _⟩ := hpr h0
      have hpre : pre ≠ [] := by rintro rfl; simp [flatP] at hn; omega
      have hq : ∃ q, pre[pre.length - 1]? = some q := ⟨_, List.getElem?_eq_getElem (by have := List.length_pos_iff.2 hpre; omega)⟩
      obtain ⟨q, hq⟩ := hq
      have hql := List.length_pos_iff.2 hpre
      have hqp : parts[pre.length - 1]? = some q := by rw [hp, List.getElem?_append_left (by omega)]; exact hq
      have hadj := good.adj (pre.length - 1) q p hqp (by rw [show pre.length - 1 + 1 = pre.length by omega]; exact hidx)
      have hgq := good.pos q (List.mem_of_getElem? hqp)
      have hpre2 : pre = pre.dropLast ++ [q] := snoc_last (by rw [List.getLast?_eq_getElem?]; exact hq)
      have hkey : (flatP pre)[n - 1]? = some (keyE q) := by
        rw [hpre2, flatP_app, hn]
        have hfq : flatP [q] = List.replicate q.2.2.toNat (keyE q) := by simp [flatP]
        rw [hfq]
        have hlen : (flatP pre).length = (flatP pre.dropLast).length + q.2.2.toNat := by
          conv => lhs; rw [hpre2, flatP_app, hfq]
          simp
        rw [List.getElem?_append_right (by omega), List.getElem?_replicate, if_pos (by omega)]
      have hk2 : (given.map keyE)[n - 1]? = some (keyE q) := by
        rw [← flat, hp, flatP_app, List.getElem?_append_left (by omega)]; exact hkey
      rw [List.getElem?_map, h1] at hk2
      simp at hk2
      rw [hk2]; exact hadj
    simp only [runL, stepA]
    by_cases c1 : 0 < n ∧ p.1 < pr.1
    · obtain ⟨h1, h2⟩ := hpr c1.1
      have hc : chk given typed n e0 = some 9 := by
        unfold chk; rw [if_neg (by omega), h1]; simp only; rw [if_pos (by rw [he0.1]; exact c1.2)]
      rw [if_pos c1]
      rw [hs, hseg]
      simp only [List.cons_append, runL, stepC, hc, Option.bind_some, Option.map_some, outA, outX]
    · rw [if_neg c1]
      by_cases c2 : 0 < n ∧ p.1 = pr.1
      · obtain ⟨h1, h2⟩ := hpr c2.1
        have hd := hdiff c2.1
        have hc : chk given typed n e0 = some 10 := by
          unfold chk; rw [if_neg (by omega), h1]; simp only
          rw [if_neg (by rw [he0.1]; omega), if_pos]
          refine ⟨by rw [he0.1]; exact c2.2, fun h => hd ?_⟩
          simp only [keyE, Prod.mk.injEq]
          exact ⟨c2.2.symm, by rw [← he0.2]; exact h.symm⟩
        rw [if_pos c2]
        rw [hs, hseg]
        simp only [List.cons_append, runL, stepC, hc, Option.bind_some, Option.map_some, outA, outX]
      · rw [if_neg c2]
        have hb : ∀ e ∈ given.take n, e.1 < p.1 := fun e he => by
          by_cases h0 : 0 < n
          · have := (hpr h0).2 e he; omega
          · have : n = 0 := by omega
            subst this; simp at he
        have hrun := run_seg (typed := typed) (e0 := p.1) (d0 := p.2.1) hs hkeys hb ((given.drop n).take N) 0 rfl (by omega)
        simp only [Nat.add_zero, hsl] at hrun
        rw [hs, hrun, hN]
        cases hbad : bad (ofs typed p.1 p.2.1) 0 ((given.drop n).take N) with
        | some k => simp [outA, outX, ← hs, hbad]
        | none =>
          have hlast : n + N - 1 < given.length := by omega
          simp only [← hs, hbad, List.getElem?_eq_getElem hlast, Option.bind_some]
          have hpl : (pre ++ [p]).length = pre.length + 1 := by simp
          rw [← hpl]
          refine parts_run flat good ps (pre ++ [p]) (n + N) _ (by rw [hp]; simp) (by rw [hfl]; simp [hn]) (fun _ => ⟨List.getElem?_eq_getElem hlast, fun e he => ?_⟩)
          have hmem : given[n + N - 1] ∈ (given.drop n).take N := by
            refine List.mem_of_getElem? (i := N - 1) ?_
            rw [List.getElem?_take, if_pos (by omega), List.getElem?_drop, ← List.getElem?_eq_getElem hlast]; congr 1; omega
          have hk := (hkeys _ hmem).1
          rw [hk]
          rw [List.take_add] at he
          rcases List.mem_append.1 he with he | he
          · exact Int.le_of_lt (hb e he)
          · rw [(hkeys e he).1]; exact Int.le_refl _
theorem check_eq (given : List En) (typed : List Td) (hg : given.length ≤ 60) (hl : typed.length ≤ 20) (hb : ∀ t ∈ typed, t.2.2.length ≤ 100) : ∃ r, F_audit_Check (given, typed) = some r ∧ F_batonref42_Check (given, typed) = some r := by
  obtain ⟨good, flat⟩ := partsOf_good given (by omega)
  have key : F_audit_Check (given, typed) = (runL (stepA given typed) (finA (partsOf given).length) 0 (0, (0, 0, 0)) (partsOf given)).map outA := by
    unfold F_audit_Check
    rw [parts_eq given (by omega)]
    simp only [Option.bind_some]
    generalize partsOf given = parts at *
    have hpl : parts.length ≤ given.length := by
      have h1 : (flatP parts).length = given.length := by rw [flat]; simp
      rw [← h1]
      have : ∀ {l : List En}, (∀ p ∈ l, 1 ≤ p.2.2) → l.length ≤ (flatP l).length := by
        intro l
        induction l with
        | nil => intro _; simp
        | cons p l ih =>
          intro h
          have h1 := h p (by simp)
          have h2 := ih (fun q hq => h q (by simp [hq]))
          simp only [flatP, List.flatMap_cons, List.length_append, List.length_replicate, List.length_cons] at h2 ⊢
          omega
      exact this fun p hp => (good.pos p hp).1
    refine (congrArg (fun o => Option.bind o _) (iter_run (l := parts) (mk := fun (a : AS) i => ((a.1 : Int), a.2.1, a.2.2.1, a.2.2.2, i)) (a := ((0, (0, 0, 0)) : AS)) (step := stepA given typed) (fin := finA parts.length) (fun i a => a.1 = (flatP (parts.take i)).length) ?_ ?_ ?_ (by simp [flatP]))).trans ?_
    rotate_right 1
    · cases runL (stepA given typed) (finA parts.length) 0 (0, (0, 0, 0)) parts with
      | none => rfl
      | some y => cases y <;> rfl
    · rintro ⟨n, pr⟩ i p hp hv
      simp only at hv
      have hi := getE_bound hp
      have hi' : ((i : Int) < ((parts.length : Nat) : Int)) := by omega
      have hsplit : parts = parts.take i ++ p :: parts.drop (i + 1) := by
        conv => lhs; rw [← List.take_append_drop i parts]
        rw [List.drop_eq_getElem_cons hi]
        rw [List.getElem?_eq_getElem hi] at hp; injection hp with hp; rw [hp]
      obtain ⟨hl2, hkeys, hfl⟩ := seg_keys flat hsplit hv
      have hgp := good.pos p (List.mem_of_getElem? hp)
      have hs : given.drop n = (given.drop n).take p.2.2.toNat ++ (given.drop n).drop p.2.2.toNat := by rw [List.take_append_drop]
      have hsl : ((given.drop n).take p.2.2.toNat).length = p.2.2.toNat := by simp; omega
      have hin := inner_loop given (ofs typed p.1 p.2.1) n _ _ hs (by omega) (by omega) p.2.2 (by rw [hsl]; omega)
      have w1 : IntKind.i64.wrap ((n : Int) + p.2.2) = ((n + p.2.2.toNat : Nat) : Int) := by rw [Go.IntWalk.i64_in _ (by omega)]; omega
      have w2 : IntKind.i64.wrap (((n + p.2.2.toNat : Nat) : Int) - 1) = ((n + p.2.2.toNat - 1 : Nat) : Int) := by rw [Go.IntWalk.i64_in _ (by omega)]; omega
      have hlast : n + p.2.2.toNat - 1 < given.length := by omega
      simp only [hi', decide_true, cond_true, Int.natCast_nonneg, Int.toNat_natCast, hp, Option.bind_some, of_eq typed p.1 p.2.1 hl hb, hin, w1, w2, List.getElem?_eq_getElem hlast, stepA]
      rw [wsucc (i := i) (by omega)]
      by_cases h0 : 0 < n
      · have h0' : ((n : Int) > 0) := by omega
        simp only [h0', h0, true_and, decide_true, beq_self_eq_true, cond_true, Option.bind_some]
        by_cases c1 : p.1 < pr.1
        · simp [c1]
        · by_cases c2 : p.1 = pr.1
          · simp [c2]
          · have e2 : (p.1 == pr.1) = false := by simpa using c2
            simp only [c1, c2, e2, decide_false, cond_false, if_false]
            cases bad (ofs typed p.1 p.2.1) 0 ((given.drop n).take p.2.2.toNat) <;> simp
      · have h0' : ¬ ((n : Int) > 0) := by omega
        simp only [h0', h0, false_and, decide_false, show (false == true) = false from rfl, cond_false, Option.bind_some, if_false]
        cases bad (ofs typed p.1 p.2.1) 0 ((given.drop n).take p.2.2.toNat) <;> simp
    · rintro ⟨n, pr⟩ i p ⟨n', pr'⟩ hp hv hs
      simp only at hv
      have hi := getE_bound hp
      obtain ⟨f1, f2⟩ := flat_at hp
      simp only [stepA] at hs
      split at hs
      · simp at hs
      · split at hs
        · simp at hs
        · split at hs
          · simp at hs
          · split at hs
            · simp at hs; simp only; rw [← hs.1, f2, hv]; simp
            · cases hs
    · rintro ⟨n, pr⟩ hv
      simp [finA]
  have hr := parts_run (typed := typed) flat good (partsOf given) [] 0 (0, 0, 0) rfl (by simp [flatP]) (fun h => absurd h (by simp))
  have hr2 := refcheck_eq given typed hg hl hb
  simp only [List.drop_zero, List.length_nil] at hr
  rw [key, hr, hr2]
  -- the run ends
  have tot : ∀ (l : List En) (i : Nat), ∃ y, runL (stepC given typed) (finC given) i () l = some y := by
    intro l
    induction l with
    | nil => intro i; exact ⟨_, rfl⟩
    | cons e l ih =>
      intro i
      simp only [runL, stepC]
      cases chk given typed i e with
      | some code => exact ⟨_, rfl⟩
      | none => exact ih (i + 1)
  obtain ⟨y, hy⟩ := tot given 0
  exact ⟨outX given.length y, by rw [hy]; rfl, by rw [hy]; rfl⟩
theorem audit_checks_law (x : List En × List Td × List Int) (h2 : x.2.2.length = 2) : F_batonlaw42_AuditChecks x = some true := by
  obtain ⟨given, typed, two⟩ := x
  simp only at h2
  unfold F_batonlaw42_AuditChecks
  simp only [F_batonlaw42_awake, Option.bind_some, Bool.not_true, cond_false]
  by_cases hg : ((given.length : Nat) : Int) > 60
  · simp [hg]
  by_cases ht : ((typed.length : Nat) : Int) > 20
  · simp [hg, ht]
  simp only [hg, ht, decide_false, beq_self_eq_true, cond_true, Option.bind_some, cond_false]
  have hg' : given.length ≤ 60 := by omega
  have ht' : typed.length ≤ 20 := by omega
  by_cases hb : ∀ t ∈ typed, t.2.2.length ≤ 100
  · rw [iter_run (l := typed) (mk := fun (_ : Unit) i => i) (step := fun _ _ _ => some (.inl ())) (fin := fun _ => some (Sum.inr ((typed.length : Int), false))) (fun _ _ => True) ?_ (by intros; trivial) (by intros; simp) trivial]
    · have key : ∀ (l : List Td) (i : Nat), runL (X := Bool ⊕ (Int × Bool)) (fun (_ : Unit) _ (_ : Td) => some (.inl ())) (fun _ => some (Sum.inr ((typed.length : Int), false))) i () l = some (Sum.inr ((typed.length : Int), false)) := by
        intro l
        induction l with
        | nil => intro i; rfl
        | cons _ l ih => intro i; simp only [runL, Option.bind_some]; exact ih (i + 1)
      rw [key]
      obtain ⟨r, hr1, hr2⟩ := check_eq given typed hg' ht' hb
      obtain ⟨a, b, rfl⟩ : ∃ a b, two = [a, b] := by
        match two, h2 with
        | [a, b], _ => exact ⟨a, b, rfl⟩
      have hol : (ofs typed a b).length ≤ 2 ^ 40 := by
        have : ∀ (l : List Td) (acc : List Int) (n : Nat), (∀ t ∈ l, t.2.2.length ≤ 100) → acc.length ≤ n * 100 → (l.foldl (addOf a b) acc).length ≤ (n + l.length) * 100 := by
          intro l
          induction l with
          | nil => intro acc n _ h; simpa using h
          | cons t l ih =>
            intro acc n h ha
            have := ih (addOf a b acc t) (n + 1) (fun q hq => h q (by simp [hq])) (addOf_len (h t (by simp)) ha)
            simp only [List.foldl_cons, List.length_cons]
            rw [show n + (l.length + 1) = n + 1 + l.length by omega]; exact this
        have := this typed [] 0 hb (by simp)
        unfold ofs; omega
      simp only [Option.bind_some, hr1, ref33_eq given (by omega), ref42_eq typed (by omega), hr2, beq_self_eq_true, cond_true, List.getElem?_cons_zero, List.getElem?_cons_succ, of_eq typed a b ht' hb, rof_eq typed a b ht' hb, same_self _ hol]
    · intro _ i t ht2 _
      have hi := getE_bound ht2
      have hi' : ((i : Int) < ((typed.length : Nat) : Int)) := by omega
      have hbt := hb t (List.mem_of_getElem? ht2)
      have hn : ¬ (((t.2.2.length : Nat) : Int) > 100) := by omega
      simp only [hi', decide_true, cond_true, Int.natCast_nonneg, Int.toNat_natCast, ht2, Option.bind_some, hn, decide_false, cond_false, Option.map_some]
      rw [wsucc (i := i) (by omega)]
  · -- one is too long
    have hx : ∀ (l : List Td) (i : Nat), (∃ t ∈ l, ¬ t.2.2.length ≤ 100) → runL (X := Bool ⊕ (Int × Bool)) (fun (_ : Unit) _ (t : Td) => if t.2.2.length ≤ 100 then some (.inl ()) else some (.inr (.inl true))) (fun _ => some (Sum.inr ((typed.length : Int), false))) i () l = some (Sum.inl true) := by
      intro l
      induction l with
      | nil => intro i h; obtain ⟨t, ht, _⟩ := h; cases ht
      | cons t l ih =>
        intro i h
        simp only [runL]
        by_cases hc : t.2.2.length ≤ 100
        · simp only [if_pos hc, Option.bind_some]
          obtain ⟨q, hq, hq'⟩ := h
          rcases List.mem_cons.1 hq with rfl | hq
          · exact (hq' hc).elim
          · exact ih (i + 1) ⟨q, hq, hq'⟩
        · simp only [if_neg hc, Option.bind_some]
    rw [iter_run (l := typed) (mk := fun (_ : Unit) i => i) (step := fun _ _ t => if t.2.2.length ≤ 100 then some (.inl ()) else some (.inr (.inl true))) (fin := fun _ => some (Sum.inr ((typed.length : Int), false))) (fun _ _ => True) ?_ (by intros; trivial) (by intros; simp) trivial]
    · rw [hx typed 0 (by simpa using hb)]; rfl
    · intro _ i t ht2 _
      have hi := getE_bound ht2
      have hi' : ((i : Int) < ((typed.length : Nat) : Int)) := by omega
      simp only [hi', decide_true, cond_true, Int.natCast_nonneg, Int.toNat_natCast, ht2, Option.bind_some]
      by_cases hc : t.2.2.length ≤ 100
      · have hn : ¬ (((t.2.2.length : Nat) : Int) > 100) := by omega
        simp only [hn, decide_false, cond_false, if_pos hc, Option.map_some]
        rw [wsucc (i := i) (by omega)]
      · have hn : (((t.2.2.length : Nat) : Int) > 100) := by omega
        simp only [hn, decide_true, cond_true, if_neg hc, Option.map_some]
end Go.Ideal.Seat
