/- The operations of the typed evaluator are right: those that lay or write. -/
import Derived.Test.YtbkfoogenhinfaaJa
import Derived.KernelRfl
import Derived.IntWalk
set_option linter.unusedVariables false
set_option linter.unusedSimpArgs false
set_option linter.unusedSectionVars false
namespace Go.Ideal
section
variable {Rr : Type} {prog : Nat → Option SFn} {opn : Nat → Bool} {cs : Nat → Option Ct} {ety : Nat → Option Ty} {icall : Nat → List AV → AHp → (AV → AHp → Option Rr) → Option Rr}
  {R : Run} {T : List ASV} {TI : List SV} {c : Cf} {st : ASt} {s : St} {k : ASV → ASt → Option Rr} {r : Rr} {dst : Option Nat}
variable (g : G R T TI c st s)
include g
theorem afillC_ok : ∀ {ps : List (Nat × Nat × SX)} {l : List AV} {ivs : List IV} {out : List AV}, Cas c l ivs → afillC T st.fr l ps = some out → ∃ o', fillC s.1 ivs ps = some o' ∧ Cas c out o'
  | [], l, ivs, out, h, e => by simp only [afillC, Option.some.injEq] at e; subst e; exact ⟨ivs, rfl, h⟩
  | (off, n, x) :: ps, l, ivs, out, h, e => by
    simp only [afillC] at e
    obtain ⟨v, e1, e⟩ := bind_some'.1 e
    obtain ⟨vs, e2, e⟩ := bind_some'.1 e
    split at e
    · rename_i hn
      obtain ⟨u, e3, e⟩ := bind_some'.1 e
      obtain ⟨w, e4, e⟩ := bind_some'.1 e
      obtain ⟨iv, h1, h2⟩ := av_ok g.gf e1
      obtain ⟨us, h3, h4⟩ := flat_ok h2 e2
      have hl := (Cas.len h4).1
      obtain ⟨q1, q2, q3⟩ := h.split e3
      obtain ⟨q4, q5, q6⟩ := q2.split e4
      simp only [List.length_drop] at q6
      rw [List.drop_drop] at q5
      obtain ⟨o', h5, h6⟩ := afillC_ok (ps := ps) (show Cas c (u.1 ++ vs ++ w.2) (splice ivs off us) by
        simp only [splice]; rw [hl, hn]; exact (q1.app h4).app q5) e
      refine ⟨o', ?_, h6⟩
      simp only [fillC, h1, h3, Option.bind_some]
      rw [if_pos ⟨by omega, by omega⟩]; exact h5
    · cases e
theorem op_build {z : List IV} {ps : List (Nat × Nat × SX)} (e : aOp cs opn ety icall T st dst (.build z ps) k = some r) : OpOk prog opn R T TI c s k r dst (.build z ps) := by
  simp only [aOp] at e
  obtain ⟨a, e1, e⟩ := bind_some'.1 e
  split at e
  · rename_i h1
    obtain ⟨out, e2, e⟩ := bind_some'.1 e
    obtain ⟨o', h2, h3⟩ := afillC_ok g ((ofIVs_ok e1).1 h1) e2
    exact .same g (sv := .val (.agg o')) (by simp only [evOp, h2, Option.bind_some]) (by simp only [SVa, Va]; exact ⟨_, rfl, h3⟩) e
  · cases e
theorem op_alloc {loc : Bool} {sz : Nat} {z : List (List IV)} (e : aOp cs opn ety icall T st dst (.alloc loc sz z) k = some r) : OpOk prog opn R T TI c s k r dst (.alloc loc sz z) := by
  simp only [aOp] at e
  split at e
  · rename_i el
    obtain ⟨a, e1, e⟩ := bind_some'.1 e
    split at e
    · rename_i h1
      have hc : Cas c a el := (ofIVs_ok e1).1 h1
      cases loc with
      | true =>
        simp only [if_true] at e
        split at e
        · rename_i t
          split at e
          · rename_i hf
            exact .same g (sv := .box el) (by simp only [evOp, if_true]; rw [if_pos (afree_ok g.gf hf)]) (show SVa c (.box _) (.box _) from hc) e
          · cases e
        · cases e
      | false =>
        simp only [Bool.false_eq_true, if_false] at e
        split at e
        · rename_i hw
          have hl := (Cas.len hc).1
          have hl2 : el.length = sz := by omega
          obtain ⟨c', hc', g', le⟩ := g.gh.push (.obj true a) ⟨sz, [el]⟩ rfl fun c' hc' le => by
            simp only [BR]
            refine ⟨_, rfl, el, ?_, hc.le le⟩
            rw [hc']; simp [hl2]
          refine ⟨.val (.ptr s.2.length 1 0 0), (s.1, s.2 ++ [some ⟨sz, [el]⟩]), ?_, .val (.ptr st.H.length (.st 0)), { st with H := st.H ++ [.obj true a] }, c', ⟨g', ?_, ?_, g.gf.le le⟩, le, ?_, e⟩
          · simp only [evOp, Bool.false_eq_true, if_false, List.all_cons, List.all_nil, Bool.and_true, decide_eq_true_eq]
            rw [if_pos ⟨hl2, hw.2⟩]; rfl
          · rw [hc']; simp [g.H]
          · rw [hc']; simp [g.h]
          · simp only [SVa, Va]
            refine ⟨rfl, .inr ⟨true, a, s.2.length, ?_, ?_, rfl⟩⟩
            · rw [hc', ← g.H]; exact getE_len
            · rw [hc', ← g.H, ← g.h]; simp [upd]
        · cases e
    · cases e
  · cases e
theorem op_box {loc : Bool} {x : SX} (e : aOp cs opn ety icall T st dst (.box loc x) k = some r) : OpOk prog opn R T TI c s k r dst (.box loc x) := by
  simp only [aOp] at e
  obtain ⟨a, e1, e⟩ := bind_some'.1 e
  obtain ⟨vs, e2, e⟩ := bind_some'.1 e
  obtain ⟨iv, h1, h2⟩ := av_ok g.gf e1
  obtain ⟨us, h3, h4⟩ := flat_ok h2 e2
  have hl := (Cas.len h4).1
  cases loc with
  | true =>
    simp only [if_true] at e
    split at e
    · rename_i t
      split at e
      · rename_i hf
        exact .same g (sv := .box us) (by simp only [evOp, h1, h3, Option.bind_some, if_true]; rw [if_pos (afree_ok g.gf hf)]) (show SVa c (.box _) (.box _) from h4) e
      · cases e
    · cases e
  | false =>
    simp only [Bool.false_eq_true, if_false] at e
    split at e
    · rename_i hw
      obtain ⟨c', hc', g', le⟩ := g.gh.push (.obj true vs) ⟨us.length, [us]⟩ rfl fun c' hc' le => by
        simp only [BR]
        refine ⟨_, rfl, us, ?_, h4.le le⟩
        rw [hc']; simp
      refine ⟨.val (.ptr s.2.length 1 0 0), (s.1, s.2 ++ [some ⟨us.length, [us]⟩]), ?_, .val (.ptr st.H.length (.st 0)), { st with H := st.H ++ [.obj true vs] }, c', ⟨g', ?_, ?_, g.gf.le le⟩, le, ?_, e⟩
      · simp only [evOp, h1, h3, Option.bind_some, Bool.false_eq_true, if_false]
        rw [if_pos (by omega)]
      · rw [hc']; simp [g.H]
      · rw [hc']; simp [g.h]
      · simp only [SVa, Va]
        refine ⟨rfl, .inr ⟨true, vs, s.2.length, ?_, ?_, rfl⟩⟩
        · rw [hc', ← g.H]; exact getE_len
        · rw [hc', ← g.H, ← g.h]; simp [upd]
    · cases e
/-- A new slice of its own, of elements that are known. -/
theorem ownNew {hp ln : Bool} {t : Ty} {l : List t.den} {es : List (List IV)} (h : All2 (TR c.p c.Z c.h ln t hp) l es) {op : SOp} {n : Nat} (hn : es.length = n)
    (he : evOp (callL prog opn) opn dst op s = some (.val (.sl s.2.length n 0 n n), (s.1, s.2 ++ [some ⟨t.n, es⟩])))
    (e : k (.val (.own st.H.length)) { st with H := st.H ++ [.arr true hp ln t l] } = some r) : OpOk prog opn R T TI c s k r dst op := by
  obtain ⟨c', hc', g', le⟩ := g.gh.push (.arr true hp ln t l) ⟨t.n, es⟩ rfl fun c' hc' le => by
    simp only [BR]
    refine ⟨es, ?_, h.imp fun a b h => TR.le le h⟩
    rw [hc']; simp
  refine ⟨_, _, he, .val (.own st.H.length), { st with H := st.H ++ [.arr true hp ln t l] }, c', ⟨g', ?_, ?_, g.gf.le le⟩, le, ?_, e⟩
  · rw [hc']; simp [g.H]
  · rw [hc']; simp [g.h]
  · simp only [SVa, Va]
    refine ⟨rfl, .inr ⟨true, hp, ln, t, l, ?_, ?_⟩⟩
    · rw [hc', ← g.H]; exact getE_len
    · rw [hc', ← g.H, ← g.h]; simp [upd, OwnR]; rw [← hn, h.len]
omit g in
theorem toEs_ok (hb : BRs c) {t : Ty} {hp ln : Bool} : ∀ {es : List (List AV)} {l : List t.den} {us : List (List IV)}, toEs c.H t es = some l → All2 (Cas c) es us → (∀ e ∈ es, AV.refsL e = []) → (∀ e ∈ es, hpL c.H e = true → hp = true) → (∀ e ∈ es, lnL c.H e = true → ln = true) →
    All2 (TR c.p c.Z c.h ln t hp) l us
  | [], l, us, e, h, _, _, _ => by
    simp only [toEs, Option.some.injEq] at e; subst e
    cases us with
    | nil => trivial
    | cons _ _ => exact h.elim
  | a :: es, l, us, e, h, hr, h1, h2 => by
    cases us with
    | nil => exact h.elim
    | cons u us =>
      simp only [toEs] at e
      obtain ⟨x, e1, e⟩ := bind_some'.1 e
      split at e
      · rename_i hx
        obtain ⟨l', e2, e⟩ := bind_some'.1 e
        simp only [Option.some.injEq] at e; subst e
        obtain ⟨pre, p1, p2⟩ := toC_frz hb e1 h.1
        rw [hx, List.append_nil] at p1; subst p1
        obtain ⟨u1, u2, p3, p4, p5⟩ := p2 hp ln (h1 a (by simp)) (h2 a (by simp)) (fun B hB => by rw [hr a (by simp)] at hB; cases hB)
        rw [hx] at p5; simp only [Cas] at p5; subst p5
        simp only [List.append_nil] at p3; subst p3
        exact ⟨p4, toEs_ok hb e2 h.2 (fun e he => hr e (by simp [he])) (fun e he => h1 e (by simp [he])) (fun e he => h2 e (by simp [he]))⟩
      · cases e
theorem afillE_ok {sz : Nat} : ∀ {ps : List (Nat × SX)} {es : List (List AV)} {us : List (List IV)} {out : List (List AV)}, All2 (Cas c) es us → afillE T st.fr sz es ps = some out → ∃ o', fillE s.1 sz us ps = some o' ∧ All2 (Cas c) out o'
  | [], es, us, out, h, e => by simp only [afillE, Option.some.injEq] at e; subst e; exact ⟨us, rfl, h⟩
  | (i, x) :: ps, es, us, out, h, e => by
    simp only [afillE] at e
    obtain ⟨v, e1, e⟩ := bind_some'.1 e
    obtain ⟨vs, e2, e⟩ := bind_some'.1 e
    split at e
    · rename_i hn
      obtain ⟨iv, h1, h2⟩ := av_ok g.gf e1
      obtain ⟨ws, h3, h4⟩ := flat_ok h2 e2
      have hl := (Cas.len h4).1
      obtain ⟨o', h5, h6⟩ := afillE_ok (ps := ps) (h.set h4 i) e
      refine ⟨o', ?_, h6⟩
      simp only [fillE, h1, h3, Option.bind_some]
      rw [if_pos ⟨by omega, by rw [h.len]; exact hn.2⟩]; exact h5
    · cases e
theorem op_bsl {own : Bool} {sz : Nat} {z : List IV} {len : Nat} {ps : List (Nat × SX)} (e : aOp cs opn ety icall T st dst (.bsl own sz z len ps) k = some r) : OpOk prog opn R T TI c s k r dst (.bsl own sz z len ps) := by
  simp only [aOp] at e
  split at e
  · rename_i hz
    obtain ⟨a, e1, e'⟩ := bind_some'.1 e
    clear e; have e := e'; clear e'
    split at e
    · rename_i h1
      obtain ⟨es, e2, e'⟩ := bind_some'.1 e
      clear e; have e := e'; clear e'
      obtain ⟨t, e3, e'⟩ := bind_some'.1 e
      clear e; have e := e'; clear e'
      split at e
      · rename_i ht
        obtain ⟨l, e4, e'⟩ := bind_some'.1 e
        clear e; have e := e'; clear e'
        obtain ⟨ht, hr⟩ := ht
        subst ht
        obtain ⟨us, h2, h3⟩ := afillE_ok g (All2.repl ((ofIVs_ok (c := c) e1).1 h1) len) e2
        rw [← g.H] at e4
        have h4 := toEs_ok g.gh.blk (hp := es.any (hpL c.H)) (ln := es.any (lnL c.H)) e4 h3 (fun e he => by simpa using List.all_eq_true.1 hr e he) (fun e he h => List.any_eq_true.2 ⟨e, he, h⟩) (fun e he h => List.any_eq_true.2 ⟨e, he, h⟩)
        have hlen : us.length = len := by
          have : ∀ {ps : List (Nat × SX)} {us out : List (List IV)}, fillE s.1 t.n us ps = some out → out.length = us.length := by
            intro ps
            induction ps with
            | nil => intro us out h; simp only [fillE, Option.some.injEq] at h; subst h; rfl
            | cons p ps ih =>
              intro us out h
              obtain ⟨i, x⟩ := p
              simp only [fillE] at h
              obtain ⟨_, _, h⟩ := bind_some'.1 h
              obtain ⟨_, _, h⟩ := bind_some'.1 h
              split at h
              · have := ih h; simpa using this
              · cases h
          simpa using this h2
        cases own with
        | true =>
          simp only [if_true] at e
          rw [← g.H] at e
          refine ownNew g h4 hlen ?_ (by rw [← g.H]; exact e)
          simp only [evOp, if_pos hz, h2, Option.bind_some, if_true]
        | false =>
          simp only [Bool.false_eq_true, if_false] at e
          split at e
          · cases e
          · rename_i hh
            rw [← g.H, Bool.not_eq_true] at hh
            rw [hh] at h4
            rw [← g.H] at e
            refine .same g (a := .val (.lst false (es.any (lnL c.H)) t l)) (sv := .val (.ro false us)) ?_ (by simp only [SVa, Va, TR]; exact ⟨_, rfl, .inr (.inl ⟨false, us, rfl, by simp, h4⟩)⟩) e
            have hno : IV.ownL us.flatten = false := by
              rw [IV.ownL_eq, List.any_eq_false]
              intro v hv
              obtain ⟨e', he, hv⟩ := List.mem_flatten.1 hv
              obtain ⟨x, _, hx⟩ := h4.mem_r e' he
              simp [TR_own hx v hv]
            simp only [evOp, if_pos hz, h2, Option.bind_some, Bool.false_eq_true, if_false, hno]
      · cases e
    · cases e
  · cases e
theorem op_cvSB {own : Bool} {x : SX} (e : aOp cs opn ety icall T st dst (.cvSB own x) k = some r) : OpOk prog opn R T TI c s k r dst (.cvSB own x) := by
  simp only [aOp] at e
  obtain ⟨a, e1, e⟩ := bind_some'.1 e
  obtain ⟨ix, h1, h2⟩ := av_ok g.gf e1
  cases a <;> simp only at e <;> try (cases e; done)
  rename_i b
  simp only [Va] at h2; subst h2
  obtain ⟨hc, e⟩ := cut_some.1 e
  rw [decide_eq_true_eq] at hc
  have key : ∀ (p : Bool) (Z : Nat → Prop) (h : Heap) (ln hp : Bool) (b : List UInt8), All2 (TR p Z h ln (.int .u8) hp) (b.map fun c => (c.toNat : Int)) (b.map fun b => [IV.int .u8 b.toNat]) := by
    intro p Z h ln hp b
    induction b with
    | nil => trivial
    | cons x b ih => exact ⟨by simp [TR], ih⟩
  cases own with
  | true =>
    simp only [if_true] at e
    refine ownNew g (key _ _ _ _ _ _) (n := b.length) (by simp) ?_ e
    simp only [evOp, h1, Option.bind_some, if_neg (Nat.not_lt.2 hc), if_true]; rfl
  | false =>
    simp only [Bool.false_eq_true, if_false] at e
    exact .same g (sv := .val (.ro false (b.map fun b => [.int .u8 b.toNat]))) (by simp only [evOp, h1, Option.bind_some, if_neg (Nat.not_lt.2 hc), Bool.false_eq_true, if_false])
      (by simp only [SVa, Va, TR]; exact ⟨_, rfl, .inr (.inl ⟨false, _, rfl, by simp, by simpa only [TR] using key c.p c.Z c.h false false b⟩)⟩) e
theorem mks_ok {sz : Nat} {z : List IV} {bytes : Nat} {l cc : SX} {n : Int} {a : List AV} {t : Ty} {x : t.den × List AV}
    (hl : l.val s.1 = some (.int .i64 n)) (hcc : cc.val s.1 = some (.int .i64 n)) (e1 : ofIVs z = some a) (hz : a.all AV.one = true ∧ t.n = sz ∧ 0 < sz ∧ widC a = sz ∧ AV.refsL a = [] ∧ hpL st.H a = false ∧ lnL st.H a = false)
    (e2 : toC st.H t a = some x) (hx : x.2 = []) (hn : 0 ≤ n ∧ n * (bytes + 1 : Nat) ≤ most)
    (e : k (.val (.own st.H.length)) { st with H := st.H ++ [.arr true false false t (List.replicate n.toNat x.1)] } = some r) : OpOk prog opn R T TI c s k r dst (.mks sz z bytes l cc) := by
  obtain ⟨z1, rfl, z2, z3, z4, z5, z6⟩ := hz
  have hc : Cas c a z := (ofIVs_ok e1).1 z1
  rw [← g.H] at e2 z5 z6
  obtain ⟨pre, p1, p2⟩ := toC_frz g.gh.blk e2 hc
  rw [hx, List.append_nil] at p1; subst p1
  obtain ⟨u1, u2, p3, p4, p5⟩ := p2 false false (by rw [z5]; simp) (by rw [z6]; simp) (fun B hB => by rw [z4] at hB; cases hB)
  rw [hx] at p5; simp only [Cas] at p5; subst p5
  simp only [List.append_nil] at p3; subst p3
  have hlz := (Cas.len hc).1
  refine ownNew g (All2.repl p4 n.toNat) (n := n.toNat) (by simp) ?_ e
  simp only [evOp, hl, hcc, Option.bind_some]
  rw [if_pos ⟨hn.1, Int.le_refl _, hn.2, z2, by omega⟩]
theorem op_mks {sz : Nat} {z : List IV} {bytes : Nat} {l cc : SX} (e : aOp cs opn ety icall T st dst (.mks sz z bytes l cc) k = some r) : OpOk prog opn R T TI c s k r dst (.mks sz z bytes l cc) := by
  simp only [aOp] at e
  split at e
  · rename_i l' c'
    split at e
    · rename_i hlc; subst hlc
      obtain ⟨n, e1, e⟩ := bind_some'.1 e
      obtain ⟨iv, h1, h2⟩ := av_ok g.gf e1
      split at e
      · rename_i n
        simp only [Va] at h2; subst h2
        obtain ⟨a, e2, e⟩ := bind_some'.1 e
        obtain ⟨t, e3, e⟩ := bind_some'.1 e
        split at e
        · rename_i hz
          obtain ⟨x, e4, e⟩ := bind_some'.1 e
          split at e
          · rename_i hx
            obtain ⟨hn, e⟩ := cut_some.1 e
            rw [decide_eq_true_eq] at hn
            exact mks_ok g h1 h1 e2 hz e4 hx hn e
          · cases e
        · cases e
      · cases e
    · cases e
  · rename_i l' c'
    split at e
    · rename_i hlc; subst hlc
      split at e
      · rename_i n
        obtain ⟨a, e2, e⟩ := bind_some'.1 e
        obtain ⟨t, e3, e⟩ := bind_some'.1 e
        split at e
        · rename_i hz
          obtain ⟨x, e4, e⟩ := bind_some'.1 e
          split at e
          · rename_i hx
            obtain ⟨hn, e⟩ := cut_some.1 e
            rw [decide_eq_true_eq] at hn
            exact mks_ok g rfl rfl e2 hz e4 hx hn e
          · cases e
        · cases e
      · cases e
    · cases e
  · cases e
end
end Go.Ideal
set_option linter.unusedVariables false
set_option linter.unusedSimpArgs false
set_option linter.unusedSectionVars false
namespace Go.Ideal
theorem splice_len {cs : List IV} {off : Nat} {ps : List IV} (h : off + ps.length ≤ cs.length) : (splice cs off ps).length = cs.length := by
  simp only [splice, List.length_append, List.length_take, List.length_drop]; omega
section
variable {Rr : Type} {prog : Nat → Option SFn} {opn : Nat → Bool} {cs : Nat → Option Ct} {ety : Nat → Option Ty} {icall : Nat → List AV → AHp → (AV → AHp → Option Rr) → Option Rr}
  {R : Run} {T : List ASV} {TI : List SV} {c : Cf} {st : ASt} {s : St} {k : ASV → ASt → Option Rr} {r : Rr} {dst : Option Nat}
variable (g : G R T TI c st s)
include g
theorem astore_ok {p : ASV} {sv : SV} (v : SVa c p sv) {vs : List AV} {us : List IV} (hv : Cas c vs us) {K : ASt → Option Rr} (e : astore st p vs K = some r) :
    ∃ st' s' c', K st' = some r ∧ storeAt s sv us = some s' ∧ G R T TI c' st' s' ∧ Le c c' := by
  unfold astore at e
  split at e
  · rename_i slot o
    cases sv <;> simp only [SVa] at v
    obtain ⟨rfl, rfl⟩ := v
    split at e
    · rename_i l hl
      have hf : FR TI c (some (.box l)) _ := hl ▸ g.gf.fr _
      obtain ⟨s', h1, h2⟩ := hf
      cases s' <;> simp only [SVa] at h2
      rw [← g.H] at e
      obtain ⟨out, h3, h4, h5, _⟩ := setO_ok g.gh.blk h2 hv e
      refine ⟨_, (s.1.put _ (.box _), s.2), c, h3, by simp only [storeAt, h1]; rw [if_pos h5], ⟨g.gh, rfl, g.h, gput_ok g.gf (show SVa c (.box _) (.box _) from h4)⟩, Le.refl c⟩
    · cases e
  · rename_i B o
    cases sv <;> simp only [SVa, Va] at v
    rcases v.2 with h | ⟨wr, cs', b, hB, hm, rfl⟩
    · rw [g.H] at h; rw [h] at e; cases e
    · have hB' := hB
      rw [g.H] at hB; rw [hB] at e
      cases wr <;> simp only at e
      · cases e
      · have br := g.gh.blk B _ hB'
        simp only [BR] at br
        obtain ⟨b', hm', ee, h1, hc⟩ := br
        rw [hm] at hm'; injection hm' with hm'; subst hm'
        rw [← g.H] at e
        obtain ⟨out, q1, q2, q3, _⟩ := setO_ok g.gh.blk hc hv e
        have hl := splice_len q3
        obtain ⟨c', hc', g', le⟩ := g.gh.set hB' rfl (x' := .obj true out) rfl trivial hm ⟨ee.length, [splice ee o.val us]⟩ fun c' hc' le => by
          simp only [BR]
          refine ⟨_, rfl, _, ?_, q2.le le⟩
          rw [hc', hl]; exact getE_set_eq h1
        have hg : hget c.h b 1 = some ⟨ee.length, [ee]⟩ := hget_iff.2 ⟨h1, rfl⟩
        refine ⟨_, (s.1, s.2.set b (some ⟨ee.length, [splice ee o.val us]⟩)), c', q1, ?_, ⟨g', ?_, ?_, g.gf.le le⟩, le⟩
        · simp only [storeAt, ← g.h, hg, Option.bind_some, List.getElem?_cons_zero]
          rw [if_pos q3]; rfl
        · rw [hc', g.H]
        · rw [hc', ← g.h]
  · rename_i B i o
    cases sv <;> simp only [SVa, Va] at v
    rcases v.2 with h | ⟨wr, hp', ln', t', l', b, hB, hm, rfl, hi⟩
    · rw [g.H] at h; rw [h] at e; cases e
    · have hB' := hB
      rw [g.H] at hB; rw [hB] at e
      cases wr <;> simp only at e
      · cases e
      · have br := g.gh.blk B _ hB'
        simp only [BR, hm] at br
        obtain ⟨es, h1, h2⟩ := br
        split at e
        · rename_i hr
          obtain ⟨x, e2, e⟩ := bind_some'.1 e
          obtain ⟨u, h3, h4⟩ := h2.get e2
          rw [← g.H] at e
          obtain ⟨out, q1, q2, q3, q4, q5, q6⟩ := setO_ok g.gh.blk (cellsT_ok h4) hv e
          obtain ⟨z, e3, q1⟩ := bind_some'.1 q1
          split at q1
          · rename_i hz
            obtain ⟨pre, p1, p2⟩ := toC_frz g.gh.blk e3 q2
            rw [hz, List.append_nil] at p1; subst p1
            obtain ⟨u1, u2, p3, p4, p5⟩ := p2 (hp' || hpL c.H vs) (ln' || lnL c.H vs)
              (fun hh => by rcases q4 hh with h | h; rw [hpL_cellsT h]; rfl; rw [h, Bool.or_true])
              (fun hh => by rcases q5 hh with h | h; rw [lnL_cellsT h]; rfl; rw [h, Bool.or_true])
              (fun B hB => by rw [q6 refsL_cellsT hr] at hB; cases hB)
            rw [hz] at p5; simp only [Cas] at p5; subst p5
            simp only [List.append_nil] at p3
            obtain ⟨c', hc', g', le⟩ := g.gh.set hB' rfl (x' := .arr true (hp' || hpL c.H vs) (ln' || lnL c.H vs) t' (l'.set i z.1)) rfl (by simp [blkLe]) hm ⟨t'.n, es.set i (splice u o.val us)⟩ fun c' hc' le => by
              simp only [BR]
              refine ⟨es.set i (splice u o.val us), ?_, All2.set ?_ i (h2.imp fun a b h => TR.le le (TR.flags (by simp; exact fun h => .inl h) (by simp; exact fun h => .inl h) h))⟩
              · rw [hc']; exact getE_set_eq h1
              · rw [p3]; exact TR.le le p4
            have hg : hget c.h b l'.length = some ⟨t'.n, es⟩ := hget_iff.2 ⟨h1, h2.len⟩
            refine ⟨_, (s.1, s.2.set b (some ⟨t'.n, es.set i (splice u o.val us)⟩)), c', q1, ?_, ⟨g', ?_, ?_, g.gf.le le⟩, le⟩
            · simp only [storeAt, ← g.h, hg, Option.bind_some, h3]
              rw [if_pos q3]
            · rw [hc', g.H]
            · rw [hc', ← g.h]
          · cases q1
        · cases e
  · cases e
theorem op_store {n : Nat} {p x : SX} (e : aOp cs opn ety icall T st dst (.store n p x) k = some r) : OpOk prog opn R T TI c s k r dst (.store n p x) := by
  simp only [aOp] at e
  obtain ⟨a, e1, e⟩ := bind_some'.1 e
  obtain ⟨b, e2, e⟩ := bind_some'.1 e
  obtain ⟨vs, e3, e⟩ := bind_some'.1 e
  obtain ⟨sv, h1, h2⟩ := ax_ok g.gf e1
  obtain ⟨iv, h3, h4⟩ := av_ok g.gf e2
  obtain ⟨us, h5, h6⟩ := flat_ok h4 e3
  split at e
  · rename_i hn
    obtain ⟨st', s', c', q1, q2, q3, q4⟩ := astore_ok g h2 h6 e
    refine ⟨.val (.tup []), s', ?_, .val (.tup []), st', c', q3, q4, by simp [SVa, Va, Vas], q1⟩
    simp only [evOp, h1, h3, h5, Option.bind_some]
    rw [if_pos (by rw [(Cas.len h6).1, hn]), q2]; rfl
  · cases e
theorem op_slL {sz : Nat} {x : SX} {lo hi mx : Option SX} (e : aOp cs opn ety icall T st dst (.slL sz x lo hi mx) k = some r) : OpOk prog opn R T TI c s k r dst (.slL sz x lo hi mx) := by
  simp only [aOp] at e
  obtain ⟨a, e1, e'⟩ := bind_some'.1 e
  clear e; have e := e'; clear e'
  obtain ⟨n, e2, e'⟩ := bind_some'.1 e
  clear e; have e := e'; clear e'
  obtain ⟨iv, h1, h2⟩ := av_ok g.gf e1
  obtain ⟨l, h3, e'⟩ := aOptNat_ok g e
  clear e; have e := e'; clear e'
  obtain ⟨rr, h4, e'⟩ := aOptNat_ok g e
  clear e; have e := e'; clear e'
  have hlen := alen_ok g.H g.gh.blk h2 e2
  cases mx with
  | none =>
    simp only at e
    cases a
    case nils =>
      simp only at e
      obtain ⟨hc, e⟩ := cut_some.1 e
      rw [decide_eq_true_eq] at hc
      simp only [Va] at h2
      refine .same g (sv := .val iv) ?_ (by simp only [SVa, Va]; exact h2) e
      simp only [evOp, h1, h3, Option.bind_some, hlen, h4]
      rcases h2 with rfl | rfl <;> simp only [if_pos hc]
    case lst hp ln t b =>
      simp only at e
      split at e
      · rename_i hsz
        obtain ⟨hsz, hhp⟩ := hsz
        subst hsz
        have : hp = false := by simpa using hhp
        subst this
        obtain ⟨hc, e⟩ := cut_some.1 e
        rw [decide_eq_true_eq] at hc
        simp only [Va, TR] at h2
        obtain ⟨iv', hh, h2⟩ := h2
        simp at hh; subst hh
        rcases h2 with ⟨rfl, h2⟩ | ⟨bo, es, rfl, h5, h2⟩ | ⟨h2, _⟩
        · simp only [List.length_nil, Nat.le_zero_eq] at hc
          obtain ⟨hc1, rfl⟩ := hc
          have : l = 0 := by omega
          subst this
          refine .same g (sv := .val iv) ?_ (by simp only [SVa, Va, TR]; exact ⟨iv, rfl, .inl ⟨by simp, h2⟩⟩) e
          simp only [evOp, h1, h3, Option.bind_some, hlen, h4]
          rcases h2 with rfl | rfl <;> simp
        · refine .same g (sv := .val (.ro bo ((es.drop l).take (rr - l)))) ?_ (by simp only [SVa, Va, TR]; exact ⟨_, rfl, .inr (.inl ⟨bo, _, rfl, h5, (h2.drop l).take (rr - l)⟩)⟩) e
          simp only [evOp, h1, h3, Option.bind_some, hlen, h4]
          rw [if_pos ⟨hc.1, by rw [h2.len]; exact hc.2, TR.sz h2⟩]
        · cases h2
      · cases e
    case own B =>
      simp only at e
      simp only [Va] at h2
      rcases h2.2 with h | ⟨wr, hp', ln', t', l', hB, h2⟩
      · rw [g.H] at h; rw [h] at e; cases e
      · have hB' := hB
        rw [g.H] at hB; rw [hB] at e; simp only at e
        split at e
        · rename_i hsz; subst hsz
          obtain ⟨hc, e⟩ := cut_some.1 e
          rw [decide_eq_true_eq] at hc
          have br := g.gh.blk B _ hB'
          simp only [BR] at br
          cases hm : c.m B with
          | none =>
            rw [hm] at br h2; simp only [OwnR] at br h2; subst br
            simp only [List.length_nil, Nat.le_zero_eq] at hc
            obtain ⟨hc1, rfl⟩ := hc
            have : l = 0 := by omega
            subst this
            refine .same g (sv := .val iv) ?_ (by simp only [SVa, Va]; exact ⟨by rcases h2 with rfl | rfl <;> rfl, .inr ⟨wr, hp', ln', t', [], hB', by simp [SubR, hm, h2]⟩⟩) e
            simp only [evOp, h1, h3, Option.bind_some, hlen, h4]
            rcases h2 with rfl | rfl <;> simp
          | some b' =>
            rw [hm] at br h2; simp only [OwnR] at br h2; subst h2
            obtain ⟨es, h6, h7⟩ := br
            have hg : hget c.h b' l'.length = some ⟨t'.n, es⟩ := hget_iff.2 ⟨h6, h7.len⟩
            refine .same g (sv := .val (.sl b' l'.length (0 + l) (rr - l) (l'.length - l))) ?_ (by simp only [SVa, Va]; exact ⟨rfl, .inr ⟨wr, hp', ln', t', l', hB', by simp only [SubR, hm, Nat.zero_add, and_true]; omega⟩⟩) e
            simp only [evOp, h1, h3, Option.bind_some, hlen, h4, ← g.h, hg]
            rw [if_pos ⟨hc.1, hc.2, trivial⟩]
        · cases e
    case sub B off len cap =>
      simp only at e
      simp only [Va] at h2
      rcases h2.2 with h | ⟨wr, hp', ln', t', l', hB, h2⟩
      · rw [g.H] at h; rw [h] at e; cases e
      · have hB' := hB
        rw [g.H] at hB; rw [hB] at e; simp only at e
        split at e
        · rename_i hsz; subst hsz
          obtain ⟨hc, e⟩ := cut_some.1 e
          rw [decide_eq_true_eq] at hc
          have br := g.gh.blk B _ hB'
          simp only [BR] at br
          obtain ⟨h2a, h2b, h2⟩ := h2
          cases hm : c.m B with
          | none =>
            rw [hm] at br h2; simp only at br h2; subst br
            obtain ⟨h2c, rfl, rfl⟩ := h2
            simp only [List.length_nil] at h2a
            have hcap : cap = 0 := by omega
            subst hcap
            have : rr = 0 := by omega
            subst this
            have : l = 0 := by omega
            subst this
            refine .same g (sv := .val iv) ?_ (by simp only [SVa, Va]; exact ⟨by rcases h2c with rfl | rfl <;> rfl, .inr ⟨wr, hp', ln', t', [], hB', by simp [SubR, hm, h2c]⟩⟩) e
            simp only [evOp, h1, h3, Option.bind_some, hlen, h4]
            rcases h2c with rfl | rfl <;> simp
          | some b' =>
            rw [hm] at br h2; simp only at br h2; subst h2
            obtain ⟨es, h6, h7⟩ := br
            have hg : hget c.h b' l'.length = some ⟨t'.n, es⟩ := hget_iff.2 ⟨h6, h7.len⟩
            refine .same g (sv := .val (.sl b' l'.length (off + l) (rr - l) (cap - l))) ?_ (by simp only [SVa, Va]; exact ⟨rfl, .inr ⟨wr, hp', ln', t', l', hB', by simp only [SubR, hm, and_true]; omega⟩⟩) e
            simp only [evOp, h1, h3, Option.bind_some, hlen, h4, ← g.h, hg]
            rw [if_pos ⟨hc.1, hc.2, trivial⟩]
        · cases e
    all_goals (simp only at e; cases e)
  | some m =>
    simp only at e
    obtain ⟨mv, e3, e'⟩ := bind_some'.1 e
    clear e; have e := e'; clear e'
    obtain ⟨ivm, h5, h6⟩ := av_ok g.gf e3
    obtain ⟨m', h7, e'⟩ := aNat_ok h6 e
    clear e; have e := e'; clear e'
    have fin : ∀ {e' : cut (decide (l = 0 ∧ rr = 0 ∧ m' = 0)) (k (.val .nils) st) = some r}, (iv = .nils ∨ iv = .esl ∨ (∃ b es, iv = .ro b es) ∨ ∃ a b c d e, iv = .sl a b c d e) → OpOk prog opn R T TI c s k r dst (.slL sz x lo hi (some m)) := by
      intro e' hiv
      obtain ⟨hc, e''⟩ := cut_some.1 e'
      rw [decide_eq_true_eq] at hc
      rcases hiv with rfl | rfl | ⟨_, _, rfl⟩ | ⟨_, _, _, _, _, rfl⟩
      · exact .same g (sv := .val .nils) (by simp only [evOp, h1, h3, Option.bind_some, hlen, h4, h5, h7, if_pos hc]) (by simp [SVa, Va]) e''
      · exact .same g (sv := .val .esl) (by simp only [evOp, h1, h3, Option.bind_some, hlen, h4, h5, h7, if_pos hc]) (by simp [SVa, Va]) e''
      · exact .same g (sv := .val .esl) (by simp only [evOp, h1, h3, Option.bind_some, hlen, h4, h5, h7, if_pos hc]) (by simp [SVa, Va]) e''
      · exact .same g (sv := .val .esl) (by simp only [evOp, h1, h3, Option.bind_some, hlen, h4, h5, h7, if_pos hc]) (by simp [SVa, Va]) e''
    cases a
    case nils =>
      simp only [Va] at h2
      exact fin (e' := e) (by rcases h2 with h | h; exact .inl h; exact .inr (.inl h))
    case lst hp ln t l0 =>
      simp only [Va, TR] at h2
      obtain ⟨iv', h, h2⟩ := h2
      simp at h; subst h
      refine fin (e' := e) ?_
      rcases h2 with ⟨_, h | h⟩ | ⟨_, _, h, _⟩ | ⟨_, _, _, _, _, _, _, h, _⟩
      · exact .inl h
      · exact .inr (.inl h)
      · exact .inr (.inr (.inl ⟨_, _, h⟩))
      · exact .inr (.inr (.inr ⟨_, _, _, _, _, h⟩))
    case own B =>
      simp only [Va] at h2
      rcases h2.2 with h | ⟨_, _, _, _, _, hB, h⟩
      · rw [g.H] at h; simp only [alen, h] at e2; cases e2
      · refine fin (e' := e) ?_
        unfold OwnR at h
        split at h
        · rcases h with h | h
          · exact .inl h
          · exact .inr (.inl h)
        · exact .inr (.inr (.inr ⟨_, _, _, _, _, h⟩))
    case sub B _ _ _ =>
      simp only [Va] at h2
      rcases h2.2 with h | ⟨_, _, _, _, _, hB, h⟩
      · rw [g.H] at h; simp only [alen, h] at e2; cases e2
      · refine fin (e' := e) ?_
        obtain ⟨_, _, h⟩ := h
        split at h
        · rcases h.1 with h | h
          · exact .inl h
          · exact .inr (.inl h)
        · exact .inr (.inr (.inr ⟨_, _, _, _, _, h⟩))
    all_goals (simp only at e; cases e)
theorem op_app {sz bytes : Nat} {x y : SX} (e : aOp cs opn ety icall T st dst (.app sz bytes x y) k = some r) : OpOk prog opn R T TI c s k r dst (.app sz bytes x y) := by
  simp only [aOp] at e
  obtain ⟨a, e1, e'⟩ := bind_some'.1 e
  clear e; have e := e'; clear e'
  obtain ⟨b, e2, e'⟩ := bind_some'.1 e
  clear e; have e := e'; clear e'
  obtain ⟨t, e3, e'⟩ := bind_some'.1 e
  clear e; have e := e'; clear e'
  split at e
  · rename_i ht
    obtain ⟨ht, hpos⟩ := ht
    subst ht
    obtain ⟨new, e4, e'⟩ := bind_some'.1 e
    clear e; have e := e'; clear e'
    obtain ⟨ix, h1, h2⟩ := av_ok g.gf e1
    obtain ⟨iy, h3, h4⟩ := av_ok g.gf e2
    rw [← g.H] at e4
    obtain ⟨es, h5, h6⟩ := toL_elems g.gh.blk e4 h4
    have hl := h6.len
    have h5' : elems s.2 t.n iy = some es := by rw [← g.h]; exact h5
    cases a
    case nils =>
      simp only at e
      obtain ⟨hc, e'⟩ := cut_some.1 e
      clear e; have e := e'; clear e'
      rw [decide_eq_true_eq] at hc
      simp only [Va] at h2
      by_cases hn : new = []
      · subst hn
        have : es = [] := List.length_eq_zero_iff.1 hl
        subst this
        obtain ⟨c', hc', g', le⟩ := g.gh.pushNil (b.hpF c.H) (b.lnF c.H) t
        rw [← g.H] at e
        refine ⟨.val ix, s, ?_, .val (.own c.H.length), { st with H := c.H ++ [.arr true (b.hpF c.H) (b.lnF c.H) t []] }, c', ⟨g', ?_, ?_, g.gf.le le⟩, le, ?_, e⟩
        · simp only [evOp, h1, h3, Option.bind_some, append, h5', if_neg (show ¬ t.n = 0 by omega)]
          rcases h2 with rfl | rfl <;> simp
        · rw [hc']
        · rw [hc', g.h]
        · simp only [SVa, Va]
          refine ⟨by rcases h2 with rfl | rfl <;> rfl, .inr ⟨true, _, _, t, [], by rw [hc']; exact getE_len, by rw [hc']; simp [upd, OwnR, h2]⟩⟩
      · have hes : es ≠ [] := by intro h; subst h; exact hn (List.length_eq_zero_iff.1 hl.symm)
        rw [← g.H] at e
        refine ownNew g h6 (n := es.length) rfl ?_ (by rw [← g.H]; exact e)
        simp only [evOp, h1, h3, Option.bind_some, append, h5', if_neg (show ¬ t.n = 0 by omega)]
        rcases h2 with rfl | rfl <;> simp only [if_neg hes, hl, if_pos hc] <;> rfl
    case own B =>
      simp only at e
      simp only [Va] at h2
      rcases h2.2 with h | ⟨wr, hp', ln', t', l', hB, h2'⟩
      · rw [g.H] at h; rw [h] at e; cases e
      · have hB' := hB
        rw [g.H] at hB; rw [hB] at e
        cases wr <;> simp only at e
        · cases e
        split at e
        · rename_i htt; subst htt
          obtain ⟨hc, e'⟩ := cut_some.1 e
          clear e; have e := e'; clear e'
          rw [decide_eq_true_eq] at hc
          simp only [castL_rfl] at e
          have br := g.gh.blk B _ hB'
          simp only [BR] at br
          rw [← g.H] at e
          have fl1 : ∀ {l es}, All2 (TR c.p c.Z c.h ln' t' hp') l es → All2 (TR c.p c.Z c.h (ln' || b.lnF c.H) t' (hp' || b.hpF c.H)) l es := fun h => h.imp fun a b h => TR.flags (by simp; exact fun h => .inl h) (by simp; exact fun h => .inl h) h
          have fl2 := h6.imp (q := TR c.p c.Z c.h (ln' || b.lnF c.H) t' (hp' || b.hpF c.H)) fun a b h => TR.flags (by simp; exact fun h => .inr h) (by simp; exact fun h => .inr h) h
          -- the name of the new slice
          have fin : ∀ (mb : Option Nat) (h' : Heap) (iv' : IV), c.h.length ≤ h'.length → (∀ i, i < c.h.length → c.m B ≠ some i → h'[i]? = c.h[i]?) → (∀ b, mb = some b → c.m B = some b ∨ c.h.length ≤ b) →
              (match mb with | none => l' ++ new = [] | some b0 => ∃ es', h'[b0]? = some (some ⟨t'.n, es'⟩) ∧ All2 (TR c.p c.Z c.h (ln' || b.lnF c.H) t' (hp' || b.hpF c.H)) (l' ++ new) es') →
              append s.2 t'.n bytes ix iy = some (iv', h') → iv'.one = true → OwnR mb (l' ++ new).length iv' → OpOk prog opn R T TI c s k r dst (.app t'.n bytes x y) := by
            intro mb h' iv' q1 q2 q3 q4 q5 q6 q7
            obtain ⟨c', hc', g', le⟩ := g.gh.ren hB' rfl (x' := .arr true (hp' || b.hpF c.H) (ln' || b.lnF c.H) t' (l' ++ new)) rfl mb h' q1 q2 q3 fun c' hc' le => by
              simp only [BR]
              cases mb with
              | none => exact q4
              | some b0 =>
                obtain ⟨es', q8, q9⟩ := q4
                exact ⟨es', by rw [hc']; exact q8, q9.imp fun a b h => TR.le le h⟩
            refine ⟨.val iv', (s.1, h'), ?_, .val (.own c.H.length), { st with H := c.H.set B .gone ++ [.arr true (hp' || b.hpF c.H) (ln' || b.lnF c.H) t' (l' ++ new)] }, c', ⟨g', ?_, ?_, g.gf.le le⟩, le, ?_, e⟩
            · simp only [evOp, h1, h3, Option.bind_some, q5]
            · rw [hc']
            · rw [hc']
            · simp only [SVa, Va]
              refine ⟨q6, .inr ⟨true, hp' || b.hpF c.H, ln' || b.lnF c.H, t', l' ++ new, ?_, ?_⟩⟩
              · rw [hc']
                have : (c.H.set B .gone).length = c.H.length := by simp
                rw [← this]; exact getE_len
              · rw [hc']; simp only [upd, if_true]; exact q7
          have happ : ∀ {z}, append s.2 t'.n bytes ix iy = z ↔ append c.h t'.n bytes ix iy = z := by intro z; rw [g.h]
          cases hm : c.m B with
          | none =>
            rw [hm] at br h2'; simp only [OwnR] at br h2'; subst br
            by_cases hn : new = []
            · subst hn
              have : es = [] := List.length_eq_zero_iff.1 hl
              subst this
              refine fin none s.2 ix (by rw [g.h]; exact Nat.le_refl _) (fun i _ _ => by rw [g.h]) (by simp) (by simp) ?_ h2.1 (by simpa [OwnR] using h2')
              simp only [append, h5', Option.bind_some, if_neg (show ¬ t'.n = 0 by omega)]
              rcases h2' with rfl | rfl <;> simp
            · have hes : es ≠ [] := by intro h; subst h; exact hn (List.length_eq_zero_iff.1 hl.symm)
              refine fin (some s.2.length) (s.2 ++ [some ⟨t'.n, es⟩]) (.sl s.2.length es.length 0 es.length es.length) (by rw [g.h]; simp) (fun i hi _ => by rw [g.h] at hi ⊢; exact List.getElem?_append_left hi)
                (fun b0 hb0 => by simp at hb0; subst hb0; rw [g.h]; exact .inr (Nat.le_refl _)) ⟨es, by simp, by simpa using fl2⟩ ?_ rfl (by simp [OwnR, hl])
              simp only [append, h5', Option.bind_some, if_neg (show ¬ t'.n = 0 by omega)]
              have hc' : es.length * (bytes + 1) ≤ most := by rw [hl]; simpa using hc
              rcases h2' with rfl | rfl <;> simp only [if_neg hes, if_pos hc']
          | some b0 =>
            rw [hm] at br h2'; simp only [OwnR] at br h2'; subst h2'
            obtain ⟨es0, q1, q2⟩ := br
            have hl0 := q2.len
            have hg : hget s.2 b0 l'.length = some ⟨t'.n, es0⟩ := by rw [← g.h]; exact hget_iff.2 ⟨q1, hl0⟩
            by_cases hn : new = []
            · subst hn
              have : es = [] := List.length_eq_zero_iff.1 hl
              subst this
              refine fin (some b0) s.2 (.sl b0 l'.length 0 l'.length l'.length) (by rw [g.h]; exact Nat.le_refl _) (fun i _ _ => by rw [g.h]) (fun b1 hb1 => .inl (by rw [hm]; exact hb1)) ⟨es0, by rw [← g.h]; exact q1, by simpa using fl1 q2⟩ ?_ rfl (by simp [OwnR])
              simp only [append, h5', Option.bind_some, if_neg (show ¬ t'.n = 0 by omega), hg]
              rw [if_pos ⟨trivial, Nat.le_refl _, by omega⟩]; simp
            · have hes : es ≠ [] := by intro h; subst h; exact hn (List.length_eq_zero_iff.1 hl.symm)
              have hpos' : 0 < es.length := List.length_pos_iff.2 hes
              refine fin (some b0) (s.2.set b0 (some ⟨t'.n, es0 ++ es⟩)) (.sl b0 (l'.length + es.length) 0 (l'.length + es.length) (l'.length + es.length)) (by rw [g.h]; simp)
                (fun i hi hne => by rw [g.h]; exact getE_set_ne (fun h => hne (by rw [h]; exact hm))) (fun b1 hb1 => .inl (by rw [hm]; exact hb1)) ⟨es0 ++ es, by rw [g.h] at q1; exact getE_set_eq q1, (fl1 q2).app fl2⟩ ?_ rfl (by simp [OwnR, hl])
              simp only [append, h5', Option.bind_some, if_neg (show ¬ t'.n = 0 by omega), hg]
              rw [if_pos ⟨trivial, Nat.le_refl _, by omega⟩, if_neg hes, if_neg (by omega), if_pos (by rw [hl]; exact hc), if_pos ⟨by omega, trivial⟩]
              have : List.take l'.length es0 = es0 := by rw [← hl0, List.take_length]
              rw [this]
        · cases e
    all_goals (simp only at e; cases e)
  · cases e
end
end Go.Ideal
set_option linter.unusedVariables false
set_option linter.unusedSimpArgs false
set_option linter.unusedSectionVars false
namespace Go.Ideal
/-- A slice of no elements is written: nothing happens. -/
theorem GH.setNil {R : Run} {c : Cf} (g : GH R c) {B : Nat} {hp ln hp' ln' : Bool} {t : Ty} (hB : c.H[B]? = some (.arr true hp ln t [])) (hm : c.m B = none) :
    ∃ c', c' = { c with H := c.H.set B (.arr true hp' ln' t []) } ∧ GH R c' ∧ Le c c' := by
  refine ⟨_, rfl, g.gen rfl rfl (Nat.le_refl _) (fun _ => False) (fun _ h => h.elim) (fun b hb _ => rfl) (fun B' y hB' => ?_) (fun le B' y hB' => ?_)⟩
  · by_cases e : B' = B
    · subst e
      rw [hB] at hB'; injection hB' with hB'; subst hB'
      exact ⟨_, getE_set_eq hB, .inr ⟨rfl, rfl⟩⟩
    · exact le_same (by simp only; rw [getE_set_ne e]; exact hB') rfl
  · rcases getE_set hB' with ⟨rfl, rfl⟩ | ⟨e, h⟩
    · exact .inr (.inr ⟨rfl, by simp only [hm, BR], fun b hb => by simp only [hm] at hb; cases hb⟩)
    · exact .inr (.inl ⟨h, rfl, fun _ _ h => h⟩)
section
variable {Rr : Type} {prog : Nat → Option SFn} {opn : Nat → Bool} {cs : Nat → Option Ct} {ety : Nat → Option Ty} {icall : Nat → List AV → AHp → (AV → AHp → Option Rr) → Option Rr}
  {R : Run} {T : List ASV} {TI : List SV} {c : Cf} {st : ASt} {s : St} {k : ASV → ASt → Option Rr} {r : Rr} {dst : Option Nat}
variable (g : G R T TI c st s)
include g
theorem cpy_ok {sz : Nat} {x y : SX} {b : AV} {iy : IV} (h3 : y.val s.1 = some iy) (h4 : Va c b iy) {B off len cap : Nat} {wr hp ln : Bool} {t : Ty} {l : List t.den} {ix : IV} (h1 : x.val s.1 = some ix) (hB : c.H[B]? = some (.arr true hp ln t l))
    (hs : SubR (c.m B) l.length off len cap ix) (ht : t.n = sz ∧ 0 < sz) {src : List t.den} (e4 : toL c.H t b = some src)
    (e : k (.val (.int .i64 (min src.length len : Nat))) { st with H := c.H.set B (.arr true (hp || b.hpF c.H) (ln || b.lnF c.H) t (l.take off ++ src.take (min src.length len) ++ l.drop (off + min src.length len))) } = some r) : OpOk prog opn R T TI c s k r dst (.cpy sz x y) := by
  obtain ⟨rfl, hpos⟩ := ht
  obtain ⟨es, h5, h6⟩ := toL_elems g.gh.blk e4 h4
  have hl := h6.len
  have br := g.gh.blk B _ hB
  simp only [BR] at br
  obtain ⟨s1, s2, hs⟩ := hs
  cases hm : c.m B with
  | none =>
    rw [hm] at br hs; simp only at br hs; subst br
    obtain ⟨hs, rfl, rfl⟩ := hs
    obtain ⟨c', hc', g', le⟩ := g.gh.setNil (hp' := hp || b.hpF c.H) (ln' := ln || b.lnF c.H) hB hm
    simp only [Nat.min_zero, List.take_nil, List.take_zero, List.drop_nil, List.append_nil] at e
    refine ⟨.val (.int .i64 (0 : Nat)), s, ?_, .val (.int .i64 (0 : Nat)), { st with H := c.H.set B (.arr true (hp || b.hpF c.H) (ln || b.lnF c.H) t []) }, c', ⟨g', ?_, ?_, g.gf.le le⟩, le, by simp [SVa, Va], e⟩
    · simp only [evOp, h1, h3, Option.bind_some, copy, ← g.h, h5]
      rcases hs with rfl | rfl <;> simp only [Option.bind_some] <;> rw [g.h]
    · rw [hc']
    · rw [hc', g.h]
  | some b0 =>
    rw [hm] at br hs; simp only at br hs; subst hs
    obtain ⟨es0, q1, q2⟩ := br
    have hl0 := q2.len
    have hg : hget c.h b0 l.length = some ⟨t.n, es0⟩ := hget_iff.2 ⟨q1, hl0⟩
    have fl1 : ∀ {l es}, All2 (TR c.p c.Z c.h ln t hp) l es → All2 (TR c.p c.Z c.h (ln || b.lnF c.H) t (hp || b.hpF c.H)) l es := fun h => h.imp fun a b h => TR.flags (by simp; exact fun h => .inl h) (by simp; exact fun h => .inl h) h
    have fl2 := h6.imp (q := TR c.p c.Z c.h (ln || b.lnF c.H) t (hp || b.hpF c.H)) fun a b h => TR.flags (by simp; exact fun h => .inr h) (by simp; exact fun h => .inr h) h
    have hall := ((fl1 (q2.take off)).app (fl2.take (min src.length len))).app (fl1 (q2.drop (off + min src.length len)))
    obtain ⟨c', hc', g', le⟩ := g.gh.set hB rfl (x' := .arr true (hp || b.hpF c.H) (ln || b.lnF c.H) t (l.take off ++ src.take (min src.length len) ++ l.drop (off + min src.length len))) rfl
      (by simp only [blkLe, List.length_append, List.length_take, List.length_drop]; omega) hm ⟨t.n, es0.take off ++ es.take (min src.length len) ++ es0.drop (off + min src.length len)⟩ fun c' hc' le => by
        simp only [BR]
        exact ⟨_, by rw [hc']; exact getE_set_eq q1, hall.imp fun a b h => TR.le le h⟩
    refine ⟨.val (.int .i64 (min src.length len : Nat)), (s.1, c.h.set b0 (some ⟨t.n, es0.take off ++ es.take (min src.length len) ++ es0.drop (off + min src.length len)⟩)), ?_, .val (.int .i64 (min src.length len : Nat)), { st with H := c.H.set B (.arr true (hp || b.hpF c.H) (ln || b.lnF c.H) t (l.take off ++ src.take (min src.length len) ++ l.drop (off + min src.length len))) }, c', ⟨g', ?_, ?_, g.gf.le le⟩, le, by simp [SVa, Va], e⟩
    · simp only [evOp, h1, h3, Option.bind_some, copy, ← g.h, h5, hg]
      rw [if_pos ⟨trivial, by omega, hpos⟩, hl]; rfl
    · rw [hc']
    · rw [hc']
theorem op_cpy {sz : Nat} {x y : SX} (e : aOp cs opn ety icall T st dst (.cpy sz x y) k = some r) : OpOk prog opn R T TI c s k r dst (.cpy sz x y) := by
  simp only [aOp] at e
  obtain ⟨a, e1, e'⟩ := bind_some'.1 e
  clear e; have e := e'; clear e'
  obtain ⟨b, e2, e'⟩ := bind_some'.1 e
  clear e; have e := e'; clear e'
  obtain ⟨ix, h1, h2⟩ := av_ok g.gf e1
  obtain ⟨iy, h3, h4⟩ := av_ok g.gf e2
  rw [← g.H] at e
  cases a
  case own B =>
    simp only [Va] at h2
    rcases h2.2 with h | ⟨wr, hp, ln, t, l, hB, h2'⟩
    · simp only [h] at e; cases e
    · simp only [hB] at e
      cases wr <;> simp only at e
      · cases e
      split at e
      · rename_i ht
        obtain ⟨src, e4, e⟩ := bind_some'.1 e
        refine cpy_ok g (wr := true) (off := 0) (len := l.length) (cap := l.length) h3 h4 h1 hB ?_ ht e4 e
        unfold OwnR at h2'
        refine ⟨by omega, Nat.le_refl _, ?_⟩
        have br := g.gh.blk B _ hB
        simp only [BR] at br
        cases hm : c.m B with
        | none => rw [hm] at h2' br; simp only at h2' br ⊢; subst br; exact ⟨h2', rfl, trivial⟩
        | some b0 => rw [hm] at h2'; simp only at h2' ⊢; exact h2'
      · cases e
  case sub B off len cap =>
    simp only [Va] at h2
    rcases h2.2 with h | ⟨wr, hp, ln, t, l, hB, h2'⟩
    · simp only [h] at e; cases e
    · simp only [hB] at e
      obtain ⟨hc, e⟩ := cut_some.1 e
      cases wr <;> simp only at e
      · cases e
      split at e
      · rename_i ht
        obtain ⟨src, e4, e⟩ := bind_some'.1 e
        exact cpy_ok g (wr := true) h3 h4 h1 hB h2' ht e4 e
      · cases e
  all_goals (simp only at e; cases e)
variable (hcs : ∀ f ct, cs f = some ct → CtOk prog opn f ct) (hic : ICallOk prog opn icall)
include hcs hic
theorem aCallF_ok {f : Nat} {args : List AV} {ivs : List IV} (h : Vas c args ivs) (e : aCallF cs opn icall f args st k = some r) :
    ∃ iv h', doCall (callL prog opn) opn f ivs s.2 = some (iv, h') ∧ ∃ a st' c', G R T TI c' st' (s.1, h') ∧ Le c c' ∧ SVa c' a (.val iv) ∧ k a st' = some r := by
  unfold aCallF at e
  split at e
  · rename_i ho
    obtain ⟨iv, h', h1, v, c', g', hh, le, h2, h3⟩ := hic f args st.H _ r e R c ivs g.gh g.H h
    refine ⟨iv, h', by unfold doCall; rw [if_pos ho, ← g.h]; exact h1, .val v, { st with H := c'.H }, c', ⟨g', rfl, hh, g.gf.le le⟩, le, h2, h3⟩
  · rename_i ho
    obtain ⟨ct, e1, e⟩ := bind_some'.1 e
    obtain ⟨x, e2, e⟩ := bind_some'.1 e
    split at e
    · rename_i hf
      obtain ⟨res, e3, e⟩ := bind_some'.1 e
      obtain ⟨v, e4, e⟩ := bind_some'.1 e
      rw [← g.H] at e2 hf e4
      obtain ⟨iv, h1, h2⟩ := doCall_typ (hcs f ct e1) (by simpa using ho) g.gh.blk h e2 hf e3
      exact ⟨iv, c.h, by rw [← g.h]; exact h1, .val v, st, c, ⟨g.gh, g.H, rfl, g.gf⟩, Le.refl c, resAV_ok e4 h2, e⟩
    · cases e
theorem op_call {f : Nat} {args : List SX} (e : aOp cs opn ety icall T st dst (.call f args) k = some r) : OpOk prog opn R T TI c s k r dst (.call f args) := by
  simp only [aOp] at e
  obtain ⟨l, e1, e⟩ := bind_some'.1 e
  obtain ⟨ivs, h1, h2⟩ := avs_ok g.gf e1
  obtain ⟨iv, h', h3, h4⟩ := aCallF_ok g hcs hic h2 e
  exact ⟨.val iv, (s.1, h'), by simp only [evOp, h1, Option.bind_some, h3], h4⟩
theorem op_callv {f : SX} {args : List SX} (e : aOp cs opn ety icall T st dst (.callv f args) k = some r) : OpOk prog opn R T TI c s k r dst (.callv f args) := by
  simp only [aOp] at e
  obtain ⟨fv, e1, e⟩ := bind_some'.1 e
  obtain ⟨l, e2, e⟩ := bind_some'.1 e
  obtain ⟨ivf, h1, h2⟩ := av_ok g.gf e1
  obtain ⟨ivs, h3, h4⟩ := avs_ok g.gf e2
  cases fv <;> simp only at e <;> try (cases e; done)
  simp only [Va] at h2
  obtain ⟨a', b', rfl, h5, h6⟩ := h2
  obtain ⟨iv, h', h7, h8⟩ := aCallF_ok g hcs hic ((h5.app h4).app h6) e
  exact ⟨.val iv, (s.1, h'), by simp only [evOp, h1, h3, Option.bind_some, h7], h8⟩
/-- All operations. -/
theorem aOp_ok {op : SOp} (e : aOp cs opn ety icall T st dst op k = some r) : OpOk prog opn R T TI c s k r dst op := by
  cases op
  case mov => exact op_mov g e
  case pick => exact op_pick g e
  case alloc => exact op_alloc g e
  case box => exact op_box g e
  case build => exact op_build g e
  case bsl => exact op_bsl g e
  case load => exact op_load g e
  case store => exact op_store g e
  case nilc => exact op_nilc g e
  case bin => exact op_bin g e
  case eq => exact op_eq g e
  case un => exact op_un g e
  case cvI => exact op_cvI g e
  case cvSB => exact op_cvSB g e
  case cvBS => exact op_cvBS g e
  case cvLL => exact op_cvLL g e
  case cvIS => exact op_cvIS g e
  case cvSS => exact op_cvSS g e
  case mkF => exact op_mkF g e
  case mks => exact op_mks g e
  case slS => exact op_slS g e
  case slL => exact op_slL g e
  case fadr => exact op_fadr g e
  case fld => exact op_fld g e
  case iadr => exact op_iadr g e
  case iadrA => exact op_iadrA g e
  case idxS => exact op_idxS g e
  case idxA => exact op_idxA g e
  case ext => exact op_ext g e
  case call => exact op_call g hcs hic e
  case callv => exact op_callv g hcs hic e
  case app => exact op_app g e
  case cpy => exact op_cpy g e
  case len => exact op_len g e
  case lenA => exact op_lenA g e
  case mn => exact op_mn g e
  case mx => exact op_mx g e
  all_goals (simp only [aOp] at e; cases e)
omit g in
theorem aputS_ok {T : List ASV} {TI : List SV} {c : Cf} {st : ASt} {s : St} (g : G R T TI c st s) {d : Option Nat} {a : ASV} {sv : SV} (v : SVa c a sv) {K : ASt → Option Rr} (e : aputS T st d a K = some r) :
    ∃ st' s', putO s d sv = some s' ∧ G R T TI c st' s' ∧ K st' = some r := by
  cases d with
  | none => exact ⟨st, s, rfl, g, e⟩
  | some t =>
    simp only [aputS] at e
    split at e
    · rename_i hf
      refine ⟨{ st with fr := st.fr.put t a }, (s.1.put t sv, s.2), ?_, ⟨g.gh, g.H, g.h, gput_ok g.gf v⟩, e⟩
      simp only [putO]; rw [if_pos (afree_ok g.gf hf)]
    · cases e
theorem aIt_ok {it : Item} {K : ASt → Option Rr} (e : aIt cs opn ety icall T it st K = some r) :
    ∃ s', evIt (callL prog opn) opn it s = some s' ∧ ∃ st' c', G R T TI c' st' s' ∧ Le c c' ∧ K st' = some r := by
  unfold aIt at e
  split at e
  · rename_i hg
    obtain ⟨sv, s1, h1, a, st1, c1, g1, le1, v1, e1⟩ := aOp_ok g hcs hic e
    obtain ⟨st2, s2, h2, g2, e2⟩ := aputS_ok hcs hic g1 v1 e1
    exact ⟨s2, by simp only [evIt, hg, wanted, Option.bind_some, if_true, h1, h2], st2, c1, g2, le1, e2⟩
  · rename_i t w hg
    split at e
    · rename_i b hb
      obtain ⟨sv, h1, h2⟩ := aget_ok g.gf hb
      cases sv <;> simp only [SVa, Va] at h2
      subst h2
      -- the slot is known now
      have ref : ∀ b', b' = b → G R T TI c { st with fr := st.fr.put t (.val (.bool b')) } s := by
        rintro b' rfl
        refine ⟨g.gh, g.H, g.h, ⟨fun t' => ?_, g.gf.len, g.gf.T, g.gf.tl⟩⟩
        simp only [AFr.put, AFr.get]
        split
        · rename_i ht; subst ht
          exact ⟨_, h1, by simp [SVa, Va]⟩
        · exact g.gf.fr t'
      by_cases hbw : b = w
      · subst hbw
        simp only [beq_self_eq_true, cond_true] at e
        obtain ⟨sv, s1, h3, a, st1, c1, g1, le1, v1, e1⟩ := aOp_ok (ref _ rfl) hcs hic e
        obtain ⟨st2, s2, h4, g2, e2⟩ := aputS_ok hcs hic g1 v1 e1
        exact ⟨s2, by simp only [evIt, hg, wanted, h1, Option.bind_some, beq_self_eq_true, if_true, h3, h4], st2, c1, g2, le1, e2⟩
      · have : (b == w) = false := by simpa using hbw
        rw [this] at e
        simp only [cond_false] at e
        have hb' : (!w) = b := by cases b <;> cases w <;> simp_all
        obtain ⟨st2, s2, h4, g2, e2⟩ := aputS_ok hcs hic (ref _ hb') (show SVa c (.val (.tup [])) (.val (.tup [])) by simp [SVa, Va, Vas]) e
        exact ⟨s2, by simp only [evIt, hg, wanted, h1, Option.bind_some, this, Bool.false_eq_true, if_false, h4], st2, c, g2, Le.refl c, e2⟩
    · rename_i hb
      obtain ⟨sv, h1, h2⟩ := aget_ok g.gf hb
      cases sv <;> simp only [SVa, Va, Vas] at h2
      obtain ⟨_, rfl, rfl⟩ := h2
      obtain ⟨st2, s2, h4, g2, e2⟩ := aputS_ok hcs hic g (show SVa c (.val (.tup [])) (.val (.tup [])) by simp [SVa, Va, Vas]) e
      exact ⟨s2, by simp only [evIt, hg, wanted, h1, Option.bind_some, Bool.false_eq_true, if_false, h4], st2, c, g2, Le.refl c, e2⟩
    · cases e
omit g in
theorem aIts_ok {T : List ASV} {TI : List SV} : ∀ {its : List Item} {c : Cf} {st : ASt} {s : St}, G R T TI c st s → ∀ {K : ASt → Option Rr}, aIts cs opn ety icall T its st K = some r →
    ∃ s', evIts (callL prog opn) opn its s = some s' ∧ ∃ st' c', G R T TI c' st' s' ∧ Le c c' ∧ K st' = some r
  | [], c, st, s, g, K, e => ⟨s, rfl, st, c, g, Le.refl c, e⟩
  | it :: its, c, st, s, g, K, e => by
    simp only [aIts] at e
    obtain ⟨s1, h1, st1, c1, g1, le1, e1⟩ := aIt_ok g hcs hic e
    obtain ⟨s2, h2, st2, c2, g2, le2, e2⟩ := aIts_ok g1 e1
    exact ⟨s2, by simp only [evIts, h1, Option.bind_some, h2], st2, c2, g2, le1.trans le2, e2⟩
end
/-- What lives on. -/
theorem keepA_get {fr : AFr} : ∀ {live : List Nat} {t : Nat}, (AFr.keep fr live).get t = if t ∈ live then (match fr.get t with
    | some (.lptr _ _) => none
    | v => v) else none
  | [], t => rfl
  | l :: ls, t => by
    have ih := keepA_get (fr := fr) (live := ls) (t := t)
    simp only [AFr.keep]
    by_cases h : l = t
    · subst h
      cases hl : fr.get l with
      | none => simp only [ih, hl]; simp
      | some v => cases v <;> simp only [AFr.get, if_true, List.mem_cons, true_or] <;> simp only [ih, hl] <;> simp
    · have hm : (t ∈ l :: ls) ↔ t ∈ ls := by simp [Ne.symm h]
      cases hl : fr.get l with
      | none => simp only [ih, hm]
      | some v => cases v <;> simp only [AFr.get, if_neg h, ih, hm]
theorem keepB_get {σ : Fr} : ∀ {live : List Nat} {t : Nat}, (Fr.keep σ live).get t = if t ∈ live then (match σ.get t with
    | some (.lptr _ _) => none
    | v => v) else none
  | [], t => rfl
  | l :: ls, t => by
    have ih := keepB_get (σ := σ) (live := ls) (t := t)
    simp only [Fr.keep]
    by_cases h : l = t
    · subst h
      cases hl : σ.get l with
      | none => simp only [ih, hl]; simp
      | some v => cases v <;> simp only [Fr.get, if_true, List.mem_cons, true_or] <;> simp only [ih, hl] <;> simp
    · have hm : (t ∈ l :: ls) ↔ t ∈ ls := by simp [Ne.symm h]
      cases hl : σ.get l with
      | none => simp only [ih, hm]
      | some v => cases v <;> simp only [Fr.get, if_neg h, ih, hm]
theorem gkeep_ok {T TI} {c : Cf} {fr : AFr} {σ : Fr} (g : GF T TI c fr σ) (live : List Nat) : GF T TI c (fr.keep live) (σ.keep live) := by
  refine ⟨fun t => ?_, g.len, g.T, g.tl⟩
  rw [keepA_get, keepB_get]
  have h := g.fr t
  split
  · cases hf : fr.get t with
    | none =>
      rw [hf] at h
      simp only [FR] at h ⊢
      intro cs hc
      split at hc
      · cases hc
      · exact h cs hc
    | some a =>
      rw [hf] at h
      cases a with
      | val a =>
        obtain ⟨s, h1, h2⟩ := h
        cases s <;> simp only [SVa] at h2
        simp only [h1]; exact ⟨_, rfl, h2⟩
      | box a =>
        obtain ⟨s, h1, h2⟩ := h
        cases s <;> simp only [SVa] at h2
        simp only [h1]; exact ⟨_, rfl, h2⟩
      | lptr n o =>
        obtain ⟨s, h1, h2⟩ := h
        cases s <;> simp only [SVa] at h2
        simp only [h1, FR]; simp
      | cst i =>
        obtain ⟨s, h1, h2⟩ := h
        cases s with
        | val _ => simp only [h1]; exact ⟨_, rfl, h2⟩
        | box _ => simp only [h1]; exact ⟨_, rfl, h2⟩
        | lptr n o => exact (g.tl _ (List.mem_of_getElem? h2) n o rfl).elim
  · simp [FR]
end Go.Ideal
set_option linter.unusedVariables false
set_option linter.unusedSimpArgs false
set_option linter.unusedSectionVars false
namespace Go.Ideal
theorem TR.nf {p : Bool} {Z : Nat → Prop} {h : Heap} {t : Ty} {x : t.den} {c : List IV} (e : TR p Z h true t true x c) : TR p Z h (!t.flat) t (!t.flat) x c := by
  cases hf : t.flat with
  | true => exact TR.flat hf e
  | false => exact e
/-- What is known of an own slice. -/
def OwnF (p : Bool) (Z : Nat → Prop) (h : Heap) (t : Ty) (x : List t.den) (iv : IV) (mb : Option Nat) : Prop :=
  OwnR mb x.length iv ∧ match mb with
    | none => x = []
    | some b => ∃ es, h[b]? = some (some ⟨t.n, es⟩) ∧ All2 (TR p Z h true t true) x es
abbrev Lo := List (Option Nat)
abbrev Oo := List (Nat × Nat)
def CF (p : Bool) (Z : Nat → Prop) (h : Heap) : (cs : List SC) → DL (cs.map SC.hole) → List IV → Lo → Prop
  | [], _, ivs, L => ivs = [] ∧ L = []
  | .ty hp ln t :: r, x, ivs, L => ∃ u v, ivs = u ++ v ∧ TR p Z h ln t hp x.1 u ∧ CF p Z h r x.2 v L
  | .own t :: r, x, ivs, L => ∃ iv v mb L', ivs = iv :: v ∧ L = mb :: L' ∧ OwnF p Z h t x.1 iv mb ∧ CF p Z h r x.2 v L'
def KF (p : Bool) (Z : Nat → Prop) (h : Heap) (σ : Fr) (base : Nat → Option ASV) (fk : ASV → Option SV → Prop) (t : Nat) : (k : SK) → DL k.hs → Lo → Oo → Prop
  | .keep, _, L, O => (∀ a, base t = some a → fk a (σ.get t)) ∧ L = [] ∧ O = []
  | .val hp ln v, x, L, O => (∃ iv, σ.get t = some (.val iv) ∧ TV p Z h ln v hp x.1 iv) ∧ L = [] ∧ O = []
  | .own u, x, L, O => ∃ iv mb, σ.get t = some (.val iv) ∧ OwnF p Z h u x.1 iv mb ∧ L = [mb] ∧ O = []
  | .box cs, x, L, O => ∃ ivs, σ.get t = some (.box ivs) ∧ CF p Z h cs x ivs L ∧ O = []
  | .obj cs, x, L, O => ∃ B b e, base t = some (.val (.ptr B (.st 0))) ∧ σ.get t = some (.val (.ptr b 1 0 0)) ∧ h[b]? = some (some ⟨e.length, [e]⟩) ∧ CF p Z h cs x e L ∧ O = [(B, b)]
def SF (p : Bool) (Z : Nat → Prop) (h : Heap) (σ : Fr) (base : Nat → Option ASV) (fk : ASV → Option SV → Prop) : (sh : Shp) → DL sh.hs → Lo → Oo → Prop
  | [], _, L, O => L = [] ∧ O = []
  | (t, k) :: r, x, L, O => ∃ L1 L2 O1 O2, L = L1 ++ L2 ∧ O = O1 ++ O2 ∧ KF p Z h σ base fk t k x.fst L1 O1 ∧ SF p Z h σ base fk r x.snd L2 O2
theorem DL.fst_app : ∀ {a b : List Ty} (x : DL a) (y : DL b), (DL.app x y).fst = x
  | [], _, _, _ => rfl
  | _ :: _, _, x, y => by simp only [DL.app, DL.fst]; rw [DL.fst_app]; rfl
theorem DL.snd_app : ∀ {a b : List Ty} (x : DL a) (y : DL b), (DL.app x y).snd = y
  | [], _, _, _ => rfl
  | _ :: _, _, x, y => by simp only [DL.app, DL.snd]; rw [DL.snd_app]
theorem unpack_pack : ∀ {a : List Ty} (x : DL a), unpack (pack x) = x
  | [], _ => rfl
  | [_], x => rfl
  | _ :: _ :: _, x => by simp only [pack, unpack]; rw [unpack_pack]; rfl
/-! from a state to its data -/
structure UOk (c : Cf) (u : Use) (L : Lo) (O : Oo) : Prop where
  own : L.filterMap id = u.own.filterMap c.m
  obj : O.map Prod.fst = u.obj
  o : ∀ x ∈ O, c.m x.1 = some x.2 ∧ ∃ cs, c.H[x.1]? = some (.obj true cs)
  w : ∀ B ∈ u.own, ∃ x, c.H[B]? = some x ∧ x.wr = true
theorem UOk.nil {c : Cf} : UOk c Use.nil [] [] := ⟨rfl, rfl, by simp, by simp [Use.nil]⟩
theorem UOk.app {c : Cf} {u v : Use} {L M : Lo} {O Q : Oo} (h : UOk c u L O) (h' : UOk c v M Q) : UOk c (u.app v) (L ++ M) (O ++ Q) := by
  refine ⟨by simp [Use.app, h.own, h'.own], by simp [Use.app, h.obj, h'.obj], fun x hx => ?_, fun B hB => ?_⟩
  · rcases List.mem_append.1 hx with h1 | h1
    · exact h.o x h1
    · exact h'.o x h1
  · rcases List.mem_append.1 hB with h1 | h1
    · exact h.w B h1
    · exact h'.w B h1
theorem UOk.frz {c : Cf} {u : Use} {f : List Nat} {L : Lo} {O : Oo} (h : UOk c u L O) : UOk c ⟨u.own, f, u.obj⟩ L O := ⟨h.own, h.obj, h.o, h.w⟩
section
variable {c : Cf} (hb : BRs c) {Z : Nat → Prop} (hZ : ∀ b, c.Z b → Z b)
include hb hZ
theorem cz : Le c { c with Z := Z } ∧ BRs { c with Z := Z } := by
  have le : Le c { c with Z := Z } := ⟨rfl, fun B x h => ⟨x, h, by rcases blkLe.rfl' x with h | h; exact .inl h; exact .inr ⟨rfl, h⟩⟩, ⟨hZ, fun _ _ => rfl⟩⟩
  exact ⟨le, fun B x hx => (hb B x hx).le le fun _ _ => rfl⟩
theorem toOwn_ok {t : Ty} {a : AV} {iv : IV} (v : Va c a iv) {x : List t.den × Use} (e : toOwn c.H t a = some x) :
    ∃ mb, OwnF c.p Z c.h t x.1 iv mb ∧ UOk c x.2 [mb] [] ∧ x.2.frz = [] ∧ iv.one = true := by
  unfold toOwn at e
  split at e
  · simp at e; subst e
    simp only [Va] at v
    exact ⟨none, ⟨by simpa [OwnR] using v, rfl⟩, ⟨rfl, rfl, by simp, by simp [Use.nil]⟩, rfl, by rcases v with rfl | rfl <;> rfl⟩
  · rename_i B
    split at e
    · rename_i hp ln t' l hB
      split at e
      · rename_i ht; subst ht
        simp at e; subst e
        simp only [Va] at v
        rcases v.2 with h | ⟨wr, hp', ln', t'', l', hB', h2⟩
        · rw [hB] at h; cases h
        · rw [hB] at hB'; injection hB' with hB'
          injection hB' with q1 q2 q3 q4 q5
          subst q4
          have q5 := eq_of_heq q5
          subst q5
          refine ⟨c.m B, ⟨h2, ?_⟩, ⟨?_, rfl, by simp, ?_⟩, rfl, v.1⟩
          · have br := hb B _ hB
            simp only [BR] at br
            cases hm : c.m B with
            | none => rw [hm] at br; exact br
            | some b =>
              rw [hm] at br
              obtain ⟨es, h1, h3⟩ := br
              exact ⟨es, h1, h3.imp fun a b h => (cz hb hZ).1.Z |> fun le => TR.mono le (TR.flags (fun _ => rfl) (fun _ => rfl) h)⟩
          · cases hm : c.m B <;> simp [hm]
          · intro B' hB'; simp at hB'; subst hB'; exact ⟨_, hB, rfl⟩
      · cases e
    · cases e
  · cases e
theorem absC_ok : ∀ {cs : List SC} {l : List AV} {ivs : List IV} {x : DL (cs.map SC.hole) × Use}, Cas c l ivs → absC c.H cs l = some x → (∀ B ∈ x.2.frz, ∀ b, c.m B = some b → Z b) →
    ∃ L, CF c.p Z c.h cs x.1 ivs L ∧ UOk c x.2 L []
  | [], l, ivs, x, h, e, hf => by
    cases l with
    | nil => simp [absC] at e; subst e; simp only [Cas] at h; subst h; exact ⟨[], ⟨rfl, rfl⟩, UOk.nil⟩
    | cons _ _ => simp [absC] at e
  | .ty hp ln t :: r, l, ivs, x, h, e, hf => by
    simp only [absC] at e
    obtain ⟨y, e1, e⟩ := bind_some'.1 e
    obtain ⟨z, e2, e⟩ := bind_some'.1 e
    split at e
    · rename_i hfl
      simp only [Bool.and_eq_true, leB, Bool.or_eq_true, Bool.not_eq_true'] at hfl
      simp at e; subst e
      obtain ⟨le, hb'⟩ := cz hb hZ
      obtain ⟨pre, p1, p2⟩ := toC_frz hb' e1 (h.le le)
      have hpre : l.take (l.length - y.2.length) = pre := by rw [p1]; simp
      rw [hpre] at hfl hf
      obtain ⟨u1, u2, rfl, p3, p4⟩ := p2 hp ln (fun h => by rcases hfl.1 with h' | h'; rw [h] at h'; cases h'; exact h') (fun h => by rcases hfl.2 with h' | h'; rw [h] at h'; cases h'; exact h')
        (fun B hB b hm => hf B (by simp [hB]) b hm)
      -- the cells behind, at the moment itself
      obtain ⟨u1', u2', q1, q2, q3⟩ : ∃ a b, u1 ++ u2 = a ++ b ∧ Cas c pre a ∧ Cas c y.2 b := by rw [p1] at h; exact h.splitA
      have hlen : u1.length = u1'.length := by
        have h1 := (Cas.len q3).1
        have h2 := (Cas.len p4).1
        have := congrArg List.length q1
        simp only [List.length_append] at this
        omega
      obtain ⟨rfl, rfl⟩ := List.append_inj q1 hlen
      obtain ⟨L, h1, h2⟩ := absC_ok q3 e2 (fun B hB => hf B (by simp [hB]))
      refine ⟨L, ⟨u1, u2, rfl, p3, h1⟩, h2.frz⟩
    · cases e
  | .own t :: r, l, ivs, x, h, e, hf => by
    cases l with
    | nil => simp [absC] at e
    | cons a l =>
      simp only [absC] at e
      obtain ⟨y, e1, e⟩ := bind_some'.1 e
      obtain ⟨z, e2, e⟩ := bind_some'.1 e
      simp at e; subst e
      simp only [Cas] at h
      obtain ⟨u, v, rfl, h1, h2⟩ := h
      have ho : a.one = true := by unfold toOwn at e1; split at e1 <;> first | rfl | (cases e1; done)
      obtain ⟨iv, rfl, _, h3⟩ := (cell_val ho).1 h1
      obtain ⟨mb, g1, g2, g3, g4⟩ := toOwn_ok hb hZ h3 e1
      obtain ⟨L, h4, h5⟩ := absC_ok h2 e2 (fun B hB => hf B (by simp [Use.app, hB]))
      exact ⟨mb :: L, ⟨iv, v, mb, L, rfl, rfl, g1, h4⟩, g2.app h5⟩
variable {T : List ASV} {TI : List SV} {st : ASt} {s : St} (hH : c.H = st.H) (g : GF T TI c st.fr s.1) {pos : Nat → Option Nat} {base : Nat → Option ASV} {fk : ASV → Option SV → Prop}
  (hk : ∀ t, (∃ i, st.fr.get t = some (.cst i) ∧ pos t = some i) → ∀ a, base t = some a → fk a (s.1.get t))
  (hk' : ∀ (chk : Bool), chk = false → ∀ t a, base t = some a → fk a (s.1.get t)) {chk : Bool} (hchk : chk = true ∨ ∀ t a, base t = some a → fk a (s.1.get t))
  (hbase : ∀ t B b, base t = some (.val (.ptr B (.st 0))) → c.m B = some b → True)
include hH g hk hchk
theorem absK_ok {t : Nat} {k : SK} {x : DL k.hs × Use} (e : absK T pos base chk st t k = some x) (hf : ∀ B ∈ x.2.frz, ∀ b, c.m B = some b → Z b) :
    ∃ L O, KF c.p Z c.h s.1 base fk t k x.1 L O ∧ UOk c x.2 L O := by
  cases k with
  | keep =>
    refine ⟨[], [], ⟨?_, rfl, rfl⟩, ?_⟩
    · rcases hchk with rfl | h
      · simp only [absK] at e
        split at e
        · rename_i i hi
          simp only [if_true] at e
          split at e
          · rename_i hp; exact hk t ⟨i, hi, hp⟩
          · cases e
        · cases e
        · cases e
        · cases e
      · exact h t
    · have : x.2 = Use.nil := by
        simp only [absK] at e
        split at e
        · split at e
          · split at e
            · simp at e; subst e; rfl
            · cases e
          · simp at e; subst e; rfl
        · split at e
          · cases e
          · simp at e; subst e; rfl
        · split at e
          · cases e
          · simp at e; subst e; rfl
        · cases e
      rw [this]; exact UOk.nil
  | val hp ln v =>
    simp only [absK] at e
    split at e
    · rename_i a ha
      split at e
      · rename_i hfl
        obtain ⟨y, e1, e⟩ := bind_some'.1 e
        simp at e; subst e
        obtain ⟨sv, h1, h2⟩ := aget_ok g ha
        cases sv <;> simp only [SVa] at h2
        rename_i iv
        obtain ⟨le, hb'⟩ := cz hb hZ
        rw [← hH] at e1 hfl
        simp only [Bool.and_eq_true, leB, Bool.or_eq_true, Bool.not_eq_true'] at hfl
        have := toV_frz hb' (hp := hp) (ln := ln) e1 (h2.le le) (fun h => by rcases hfl.1 with h' | h'; rw [h] at h'; cases h'; exact h') (fun h => by rcases hfl.2 with h' | h'; rw [h] at h'; cases h'; exact h')
          (fun B hB b hm => hf B hB b hm)
        exact ⟨[], [], ⟨⟨iv, h1, this⟩, rfl, rfl⟩, UOk.nil.frz⟩
      · cases e
    · cases e
  | own u =>
    simp only [absK] at e
    split at e
    · rename_i a ha
      obtain ⟨y, e1, e⟩ := bind_some'.1 e
      simp at e; subst e
      obtain ⟨sv, h1, h2⟩ := aget_ok g ha
      cases sv <;> simp only [SVa] at h2
      rename_i iv
      rw [← hH] at e1
      obtain ⟨mb, g1, g2, g3, g4⟩ := toOwn_ok hb hZ h2 e1
      exact ⟨[mb], [], ⟨iv, mb, h1, g1, rfl, rfl⟩, g2⟩
    · cases e
  | box cs =>
    simp only [absK] at e
    cases ha : aget T st.fr t with
    | none => rw [ha] at e; cases e
    | some a =>
      rw [ha] at e
      cases a with
      | box l =>
        simp only at e
        obtain ⟨sv, h1, h2⟩ := aget_ok g ha
        cases sv <;> simp only [SVa] at h2
        rename_i ivs
        rw [← hH] at e
        obtain ⟨L, h3, h4⟩ := absC_ok hb hZ h2 e hf
        exact ⟨L, [], ⟨ivs, h1, h3, rfl⟩, h4⟩
      | val _ => cases e
      | lptr _ _ => cases e
      | cst _ => cases e
  | obj cs =>
    simp only [absK] at e
    split at e
    · rename_i B B' ha hba
      split at e
      · rename_i hBB; subst hBB
        split at e
        · rename_i l hB
          obtain ⟨y, e1, e⟩ := bind_some'.1 e
          simp at e; subst e
          obtain ⟨sv, h1, h2⟩ := aget_ok g ha
          cases sv <;> simp only [SVa, Va] at h2
          rw [← hH] at hB e1
          rcases h2.2 with h | ⟨wr, cs', b, hB', hm, rfl⟩
          · rw [hB] at h; cases h
          · have br := hb _ _ hB
            simp only [BR] at br
            obtain ⟨b', hm', ee, h3, hc⟩ := br
            rw [hm] at hm'; injection hm' with hm'; subst hm'
            obtain ⟨L, h4, h5⟩ := absC_ok hb hZ hc e1 hf
            refine ⟨L, [(B', b)], ⟨B', b, ee, hba, by simpa [Off.val] using h1, h3, h4, rfl⟩, ⟨h5.own, by simpa using h5.obj, ?_, h5.w⟩⟩
            intro z hz; simp at hz; subst hz; exact ⟨hm, l, hB⟩
        · cases e
      · cases e
    · cases e
theorem absS_ok : ∀ {sh : Shp} {x : DL sh.hs × Use}, absS T pos base chk st sh = some x → (∀ B ∈ x.2.frz, ∀ b, c.m B = some b → Z b) →
    ∃ L O, SF c.p Z c.h s.1 base fk sh x.1 L O ∧ UOk c x.2 L O
  | [], x, e, _ => by simp [absS] at e; subst e; exact ⟨[], [], ⟨rfl, rfl⟩, UOk.nil⟩
  | (t, k) :: r, x, e, hf => by
    simp only [absS] at e
    obtain ⟨y, e1, e⟩ := bind_some'.1 e
    obtain ⟨z, e2, e⟩ := bind_some'.1 e
    simp at e; subst e
    obtain ⟨L1, O1, h1, h2⟩ := absK_ok hb hZ hH g hk hchk e1 (fun B hB => hf B (by simp [Use.app, hB]))
    obtain ⟨L2, O2, h3, h4⟩ := absS_ok e2 (fun B hB => hf B (by simp [Use.app, hB]))
    refine ⟨L1 ++ L2, O1 ++ O2, ⟨L1, L2, O1, O2, rfl, rfl, ?_, ?_⟩, h2.app h4⟩
    · rw [DL.fst_app]; exact h1
    · rw [DL.snd_app]; exact h3
end
end Go.Ideal
set_option linter.unusedVariables false
set_option linter.unusedSimpArgs false
set_option linter.unusedSectionVars false
namespace Go.Ideal
def NewF (p : Bool) (Z : Nat → Prop) (h : Heap) (y : Option ABlk) (mb : Option Nat) : Prop :=
  ∃ t x, y = some (.arr true (!t.flat) (!t.flat) t x) ∧ match mb with
    | none => x = []
    | some b => ∃ es, h[b]? = some (some ⟨t.n, es⟩) ∧ All2 (TR p Z h (!t.flat) t (!t.flat)) x es
theorem OwnF.new {p Z h} {t : Ty} {x : List t.den} {iv : IV} {mb : Option Nat} (f : OwnF p Z h t x iv mb) : NewF p Z h (some (.arr true (!t.flat) (!t.flat) t x)) mb := by
  refine ⟨t, x, rfl, ?_⟩
  have := f.2
  cases mb with
  | none => exact this
  | some b => obtain ⟨es, h1, h2⟩ := this; exact ⟨es, h1, h2.imp fun a b h => TR.nf h⟩
theorem OwnF.va {p Z h} {t : Ty} {x : List t.den} {iv : IV} {mb : Option Nat} (f : OwnF p Z h t x iv mb) {c : Cf} {B : Nat} {hp ln : Bool} (hB : c.H[B]? = some (.arr true hp ln t x)) (hm : c.m B = mb) : Va c (.own B) iv := by
  simp only [Va]
  refine ⟨?_, .inr ⟨_, _, _, _, _, hB, by rw [hm]; exact f.1⟩⟩
  have := f.1
  unfold OwnR at this
  split at this
  · rcases this with rfl | rfl <;> rfl
  · subst this; rfl
/-- A later moment that has what lies between. -/
structure At3 (p : Bool) (Z : Nat → Prop) (h : Heap) (c : Cf) (lo : Nat) (H : AHp) (L : Lo) : Prop where
  p : c.p = p
  Z : c.Z = Z
  h : c.h = h
  H : ∀ i, lo ≤ i → i < H.length → c.H[i]? = H[i]?
  m : ∀ j mb, L[j]? = some mb → c.m (lo + j) = mb
section
variable {p : Bool} {Z : Nat → Prop} {h : Heap}
theorem invC_ok : ∀ {cs : List SC} {x : DL (cs.map SC.hole)} {ivs : List IV} {L : Lo} {H : AHp}, CF p Z h cs x ivs L →
    (invC cs x H).2.length = H.length + L.length ∧ (∀ i, i < H.length → (invC cs x H).2[i]? = H[i]?) ∧ (∀ j mb, L[j]? = some mb → NewF p Z h ((invC cs x H).2[H.length + j]?) mb) ∧
      ∀ c3, At3 p Z h c3 H.length (invC cs x H).2 L → Cas c3 (invC cs x H).1 ivs
  | [], x, ivs, L, H, f => by
    obtain ⟨rfl, rfl⟩ := f
    exact ⟨by simp [invC], fun i _ => rfl, fun j mb hj => by simp at hj, fun c3 _ => by simp [invC, Cas]⟩
  | .ty hp ln t :: r, x, ivs, L, H, f => by
    obtain ⟨u, v, rfl, h1, h2⟩ := f
    obtain ⟨q1, q2, q3, q4⟩ := invC_ok (H := H) h2
    refine ⟨q1, q2, q3, fun c3 a3 => ?_⟩
    simp only [invC]
    refine (cellsT_ok ?_).app (q4 c3 a3)
    rw [a3.p, a3.Z, a3.h]; exact h1
  | .own t :: r, x, ivs, L, H, f => by
    obtain ⟨iv, v, mb, L', rfl, rfl, h1, h2⟩ := f
    obtain ⟨q1, q2, q3, q4⟩ := invC_ok (H := H ++ [.arr true (!t.flat) (!t.flat) t x.1]) h2
    simp only [List.length_append, List.length_singleton] at q1 q2 q3 q4
    have h0 : (invC r x.2 (H ++ [.arr true (!t.flat) (!t.flat) t x.1])).2[H.length]? = some (.arr true (!t.flat) (!t.flat) t x.1) := by
      rw [q2 _ (by omega)]; exact getE_len
    refine ⟨by simp only [invC, List.length_cons]; rw [q1]; omega, fun i hi => ?_, fun j mb' hj => ?_, fun c3 a3 => ?_⟩
    · simp only [invC]
      rw [q2 i (by omega), List.getElem?_append_left hi]
    · cases j with
      | zero =>
        simp at hj; subst hj
        simp only [invC, Nat.add_zero]
        rw [h0]; exact h1.new
      | succ j =>
        have := q3 j mb' (by simpa using hj)
        simp only [invC]
        rw [show H.length + (j + 1) = H.length + 1 + j by omega]; exact this
    · simp only [invC]
      have hB : c3.H[H.length]? = some (.arr true (!t.flat) (!t.flat) t x.1) := by
        rw [a3.H _ (Nat.le_refl _) (by simp only [invC]; rw [q1]; omega)]
        exact h0
      have hm := a3.m 0 mb (by simp)
      have hv := h1.va hB (by simpa using hm)
      refine ⟨[iv], v, rfl, (cell_val rfl).2 ⟨iv, rfl, one_iv rfl hv, hv⟩, q4 c3 ⟨a3.p, a3.Z, a3.h, fun i hi hl => ?_, fun j mb' hj => ?_⟩⟩
      · exact a3.H i (by omega) hl
      · have := a3.m (j + 1) mb' (by simpa using hj)
        rw [show H.length + 1 + j = H.length + (j + 1) by omega]; exact this
variable {σ : Fr} {base : Nat → Option ASV} {fk : ASV → Option SV → Prop}
/-- What stands where an object was. -/
def ObjF (p : Bool) (Z : Nat → Prop) (h : Heap) (lo : Nat) (H : AHp) (L : Lo) (B b : Nat) : Prop :=
  ∃ cs e, H[B]? = some (.obj true cs) ∧ h[b]? = some (some ⟨e.length, [e]⟩) ∧ ∀ c3, At3 p Z h c3 lo H L → Cas c3 cs e
theorem invK_ok {t : Nat} {k : SK} {x : DL k.hs} {L : Lo} {O : Oo} {H : AHp} {y : ASV × AHp} (f : KF p Z h σ base fk t k x L O) (e : invK base t k x H = some y) (hO : ∀ q ∈ O, q.1 < H.length) :
    y.2.length = H.length + L.length ∧ (∀ i, i < H.length → i ∉ O.map Prod.fst → y.2[i]? = H[i]?) ∧ (∀ j mb, L[j]? = some mb → NewF p Z h (y.2[H.length + j]?) mb) ∧
      (∀ q ∈ O, ObjF p Z h H.length y.2 L q.1 q.2) ∧
      ∀ TI c3, At3 p Z h c3 H.length y.2 L → (∀ a v, fk a v → FR TI c3 (some a) v) → (∀ q ∈ O, (∃ cs, c3.H[q.1]? = some (.obj true cs)) ∧ c3.m q.1 = some q.2) → FR TI c3 (some y.1) (σ.get t) := by
  cases k with
  | keep =>
    obtain ⟨f, rfl, rfl⟩ := f
    simp only [invK] at e
    obtain ⟨a, e1, e⟩ := bind_some'.1 e
    simp at e; subst e
    exact ⟨by simp, fun i _ _ => rfl, by simp, by simp, fun TI c3 a3 hfk _ => hfk _ _ (f a e1)⟩
  | val hp ln v =>
    obtain ⟨⟨iv, h1, h2⟩, rfl, rfl⟩ := f
    simp only [invK] at e
    obtain ⟨a, e1, e⟩ := bind_some'.1 e
    simp at e; subst e
    refine ⟨by simp, fun i _ _ => rfl, by simp, by simp, fun TI c3 a3 hfk _ => ⟨_, h1, ?_⟩⟩
    exact ofV_ok (c := c3) e1 (by rw [a3.p, a3.Z, a3.h]; exact h2)
  | own u =>
    obtain ⟨iv, mb, h1, h2, rfl, rfl⟩ := f
    simp only [invK, Option.some.injEq] at e; subst e
    refine ⟨by simp, fun i hi _ => by simp only; rw [List.getElem?_append_left hi], fun j mb' hj => ?_, by simp, fun TI c3 a3 hfk _ => ⟨_, h1, ?_⟩⟩
    · cases j with
      | zero => simp at hj; subst hj; simp only [Nat.add_zero]; rw [getE_len]; exact h2.new
      | succ j => simp at hj
    · have hB : c3.H[H.length]? = some (.arr true (!u.flat) (!u.flat) u x.1) := by
        rw [a3.H _ (Nat.le_refl _) (by simp)]; exact getE_len
      exact h2.va hB (by simpa using a3.m 0 mb (by simp))
  | box cs =>
    obtain ⟨ivs, h1, h2, rfl⟩ := f
    simp only [invK, Option.some.injEq] at e; subst e
    obtain ⟨q1, q2, q3, q4⟩ := invC_ok (H := H) h2
    exact ⟨q1, fun i hi _ => q2 i hi, q3, by simp, fun TI c3 a3 hfk _ => ⟨_, h1, q4 c3 a3⟩⟩
  | obj cs =>
    obtain ⟨B, b, ee, hb, h1, h2, h3, rfl⟩ := f
    simp only [invK, hb, Option.some.injEq] at e; subst e
    obtain ⟨q1, q2, q3, q4⟩ := invC_ok (H := H) h3
    have hBl : B < H.length := hO (B, b) (by simp)
    refine ⟨by simp only [List.length_set]; exact q1, fun i hi hn => ?_, fun j mb hj => ?_, fun q hq => ?_, fun TI c3 a3 hfk ho => ⟨_, h1, ?_⟩⟩
    · simp at hn
      simp only; rw [getE_set_ne hn]; exact q2 i hi
    · simp only; rw [getE_set_ne (by omega)]; exact q3 j mb hj
    · simp at hq; subst hq
      refine ⟨(invC cs x H).1, ee, by simp only; rw [List.getElem?_set, if_pos rfl, if_pos (by rw [q1]; omega)], h2, fun c3 a3 => q4 c3 ⟨a3.p, a3.Z, a3.h, fun i hi hl => ?_, a3.m⟩⟩
      rw [a3.H i hi (by simpa using hl)]
      simp only; rw [getE_set_ne (by omega)]
    · obtain ⟨⟨cs', ho1⟩, ho2⟩ := ho (B, b) (by simp)
      simp only [SVa, Va]
      exact ⟨rfl, .inr ⟨true, cs', b, ho1, ho2, by simp [Off.val]⟩⟩
theorem At3.mono {c : Cf} {lo : Nat} {H H' : AHp} {L L' : Lo} (a : At3 p Z h c lo H' (L ++ L')) (hl : H.length = lo + L.length) (hs : ∀ i, lo ≤ i → i < H.length → H'[i]? = H[i]?) (hle : H.length ≤ H'.length) : At3 p Z h c lo H L :=
  ⟨a.p, a.Z, a.h, fun i hi hl' => by rw [a.H i hi (by omega), hs i hi hl'], fun j mb hj => a.m j mb (by rw [List.getElem?_append_left (getE_lt hj)]; exact hj)⟩
theorem invS_ok : ∀ {sh : Shp} {x : DL sh.hs} {L : Lo} {O : Oo} {H : AHp} {y : ASt}, SF p Z h σ base fk sh x L O → invS base sh x H = some y → (∀ q ∈ O, q.1 < H.length) → (O.map Prod.fst).Nodup →
    y.H.length = H.length + L.length ∧ (∀ i, i < H.length → i ∉ O.map Prod.fst → y.H[i]? = H[i]?) ∧ (∀ j mb, L[j]? = some mb → NewF p Z h (y.H[H.length + j]?) mb) ∧
      (∀ q ∈ O, ObjF p Z h H.length y.H L q.1 q.2) ∧
      ∀ TI c3, At3 p Z h c3 H.length y.H L → (∀ a v, fk a v → FR TI c3 (some a) v) → (∀ q ∈ O, (∃ cs, c3.H[q.1]? = some (.obj true cs)) ∧ c3.m q.1 = some q.2) →
        ∀ t, (FR TI c3 (y.fr.get t) (σ.get t)) ∨ (y.fr.get t = none ∧ ∀ q ∈ sh, q.1 ≠ t)
  | [], x, L, O, H, y, f, e, hO, hn => by
    obtain ⟨rfl, rfl⟩ := f
    simp [invS] at e; subst e
    exact ⟨by simp, fun i _ _ => rfl, by simp, by simp, fun TI c3 a3 hfk _ t => .inr ⟨rfl, by simp⟩⟩
  | (t0, k) :: r, x, L, O, H, y, f, e, hO, hn => by
    obtain ⟨L1, L2, O1, O2, rfl, rfl, f1, f2⟩ := f
    simp only [invS] at e
    obtain ⟨y1, e1, e⟩ := bind_some'.1 e
    obtain ⟨z, e2, e⟩ := bind_some'.1 e
    simp at e; subst e
    obtain ⟨q1, q2, q3, q4, q5⟩ := invK_ok f1 e1 (fun q hq => hO q (by simp [hq]))
    rw [List.map_append, List.nodup_append] at hn
    obtain ⟨n1, n2, n3⟩ := hn
    have hO2 : ∀ q ∈ O2, q.1 < H.length := fun q hq => hO q (by simp [hq])
    obtain ⟨p1, p2, p3, p4, p5⟩ := invS_ok f2 e2 (fun q hq => by have := hO2 q hq; omega) n2
    have hmem : ∀ {i}, i ∈ O2.map Prod.fst → i < H.length := fun hi => by obtain ⟨q, hq, rfl⟩ := List.mem_map.1 hi; exact hO2 q hq
    have hsame : ∀ i, H.length ≤ i → i < y1.2.length → z.H[i]? = y1.2[i]? := fun i hi hl => p2 i hl (fun hm => by have := hmem hm; omega)
    have mono : ∀ {c3}, At3 p Z h c3 H.length z.H (L1 ++ L2) → At3 p Z h c3 H.length y1.2 L1 := fun a3 => a3.mono q1 hsame (by rw [p1]; omega)
    have mono2 : ∀ {c3}, At3 p Z h c3 H.length z.H (L1 ++ L2) → At3 p Z h c3 y1.2.length z.H L2 := fun a3 =>
      ⟨a3.p, a3.Z, a3.h, fun i hi hl => a3.H i (by omega) hl, fun j mb hj => by
        have := a3.m (L1.length + j) mb (by rw [List.getElem?_append_right (by omega)]; simpa using hj)
        rw [q1, Nat.add_assoc]; exact this⟩
    refine ⟨by simp only [List.length_append]; rw [p1, q1]; omega, fun i hi hn => ?_, fun j mb hj => ?_, fun q hq => ?_, fun TI c3 a3 hfk ho t => ?_⟩
    · simp only [List.map_append, List.mem_append, not_or] at hn
      rw [p2 i (by omega) hn.2, q2 i hi hn.1]
    · rw [List.getElem?_append] at hj
      split at hj
      · rename_i hl
        simp only
        rw [hsame _ (by omega) (by omega)]; exact q3 j mb hj
      · rename_i hl
        have := p3 _ mb hj
        rw [q1, show H.length + L1.length + (j - L1.length) = H.length + j by omega] at this
        exact this
    · rcases List.mem_append.1 hq with hq | hq
      · obtain ⟨cs, ee, w1, w2, w3⟩ := q4 q hq
        refine ⟨cs, ee, ?_, w2, fun c3 a3 => w3 c3 (mono a3)⟩
        have hlt := hO q (by simp [hq])
        rw [p2 q.1 (by omega) (fun hm => n3 q.1 (List.mem_map.2 ⟨q, hq, rfl⟩) q.1 hm rfl)]; exact w1
      · obtain ⟨cs, ee, w1, w2, w3⟩ := p4 q hq
        exact ⟨cs, ee, w1, w2, fun c3 a3 => w3 c3 (mono2 a3)⟩
    · simp only [AFr.get]
      split
      · rename_i ht; subst ht
        exact .inl (q5 TI c3 (mono a3) hfk (fun q hq => ho q (by simp [hq])))
      · rename_i hne
        rcases p5 TI c3 (mono2 a3) hfk (fun q hq => ho q (by simp [hq])) t with w | ⟨w1, w2⟩
        · exact .inl w
        · refine .inr ⟨w1, fun q hq => ?_⟩
          rcases List.mem_cons.1 hq with rfl | hq
          · exact hne
          · exact w2 q hq
end
end Go.Ideal
set_option linter.unusedVariables false
set_option linter.unusedSimpArgs false
set_option linter.unusedSectionVars false
namespace Go.Ideal
theorem roB_wr (x : ABlk) : (roB x).wr = false := by cases x <;> rfl
theorem BR_roB {c : Cf} {x : ABlk} {m : Option Nat} (h : BR c x m) : BR c (roB x) m := by
  cases x with
  | gone => trivial
  | arr => simpa only [roB, BR] using h
  | obj => simpa only [roB, BR] using h
theorem blkLe_roB (x : ABlk) : roB x = .gone ∨ blkLe x (roB x) := by cases x <;> simp [roB, blkLe]
def newM (c : Cf) (L : Lo) : Nat → Option Nat := fun i => if i < c.H.length then c.m i else (L[i - c.H.length]?).getD none
theorem mem_fm {L : Lo} {j b : Nat} (h : L[j]? = some (some b)) : b ∈ L.filterMap id := List.mem_filterMap.2 ⟨some b, List.mem_of_getElem? h, rfl⟩
theorem fm_inj : ∀ {L : Lo} {i j b : Nat}, (L.filterMap id).Nodup → L[i]? = some (some b) → L[j]? = some (some b) → i = j
  | [], i, j, b, _, h, _ => by simp at h
  | none :: L, i, j, b, hn, h, h' => by
    cases i <;> cases j <;> simp at h h'
    rw [fm_inj (L := L) (by simpa using hn) h h']
  | some a :: L, i, j, b, hn, h, h' => by
    simp only [List.filterMap_cons, id, List.nodup_cons] at hn
    cases i <;> cases j <;> simp at h h'
    · rfl
    · subst h; exact (hn.1 (mem_fm h')).elim
    · subst h'; exact (hn.1 (mem_fm h)).elim
    · rw [fm_inj hn.2 h h']
section
variable {Rt : Run} {c : Cf} {H0 : AHp} {Z3 : Nat → Prop} {h3 : Heap} {σ : Fr} {base : Nat → Option ASV} {fk : ASV → Option SV → Prop} {sh : Shp} {x : DL sh.hs} {L : Lo} {O : Oo} {y : ASt}
structure Rsh (Rt : Run) (c : Cf) (H0 : AHp) (Z3 : Nat → Prop) (h3 : Heap) (L : Lo) (O : Oo) : Prop where
  len : H0.length = c.H.length
  br : BRs c
  p : c.p = Rt.p
  kept : ∀ (i : Nat) x', H0[i]? = some x' → i ∉ O.map Prod.fst → x' = .gone ∨ ∃ x, c.H[i]? = some x ∧ (x' = x ∨ x' = roB x) ∧ ∀ b, c.m i = some b → h3[b]? = c.h[b]? ∧
    (x'.wr = true → (Rt.O0 b ∨ Rt.N ≤ b) ∧ ¬ Z3 b ∧ b ∉ L.filterMap id ∧ ∀ q ∈ O, q.2 ≠ b) ∧ (x'.wr = false → b < Rt.N ∧ ¬ Rt.O0 b)
  inj : ∀ (B B' : Nat) x x' b, H0[B]? = some x → H0[B']? = some x' → x.wr = true → x'.wr = true → c.m B = some b → c.m B' = some b → B = B'
  obj : ∀ q ∈ O, c.m q.1 = some q.2 ∧ (∃ w cs, c.H[q.1]? = some (.obj w cs)) ∧ (Rt.O0 q.2 ∨ Rt.N ≤ q.2) ∧ ¬ Z3 q.2 ∧ q.2 ∉ L.filterMap id
  objN : (O.map Prod.fst).Nodup
  objI : ∀ q ∈ O, ∀ q' ∈ O, q.2 = q'.2 → q.1 = q'.1
  own : ∀ b ∈ L.filterMap id, (Rt.O0 b ∨ Rt.N ≤ b) ∧ ¬ Z3 b
  ownN : (L.filterMap id).Nodup
  zle : ZLe c.Z Z3 c.h h3
  zb : ∀ b, Z3 b → b < h3.length ∧ (Rt.Z0 b ∨ Rt.O0 b ∨ Rt.N ≤ b)
  z0 : ∀ b, Rt.Z0 b → Z3 b
  base : Rt.N ≤ h3.length ∧ ∀ b, b < Rt.N → ¬ Rt.O0 b → h3[b]? = Rt.h0[b]?
theorem reshape (q : Rsh Rt c H0 Z3 h3 L O) (f : SF c.p Z3 h3 σ base fk sh x L O) (e : invS base sh x H0 = some y) :
    ∃ c3, c3 = { p := c.p, H := y.H, m := newM c L, Z := Z3, h := h3 } ∧ GH Rt c3 ∧ Le c c3 ∧
      ∀ TI, (∀ a v, fk a v → FR TI c3 (some a) v) → ∀ t, (FR TI c3 (y.fr.get t) (σ.get t)) ∨ (y.fr.get t = none ∧ ∀ q ∈ sh, q.1 ≠ t) := by
  have hOlt : ∀ z ∈ O, z.1 < H0.length := fun z hz => by
    obtain ⟨_, ⟨w, cs, h⟩, _⟩ := q.obj z hz
    rw [q.len]; exact getE_lt h
  obtain ⟨r1, r2, r3, r4, r5⟩ := invS_ok f e hOlt q.objN
  have hn : ∀ i, i < c.H.length → newM c L i = c.m i := fun i hi => by simp [newM, hi]
  have at3 : At3 c.p Z3 h3 { p := c.p, H := y.H, m := newM c L, Z := Z3, h := h3 } H0.length y.H L :=
    ⟨rfl, rfl, rfl, fun i _ _ => rfl, fun j mb hj => by
      simp only [newM, q.len]
      rw [if_neg (by omega), show c.H.length + j - c.H.length = j by omega, hj]; rfl⟩
  -- what stands at an old place
  have old : ∀ (i : Nat), i < c.H.length → (∃ b, (i, b) ∈ O) ∨ (i ∉ O.map Prod.fst ∧ y.H[i]? = H0[i]?) := fun i hi => by
    by_cases hm : i ∈ O.map Prod.fst
    · obtain ⟨z, hz, rfl⟩ := List.mem_map.1 hm
      exact .inl ⟨z.2, hz⟩
    · exact .inr ⟨hm, r2 i (by rw [q.len]; exact hi) hm⟩
  have le : Le c { p := c.p, H := y.H, m := newM c L, Z := Z3, h := h3 } := by
    refine ⟨rfl, fun B xx hB => ?_, q.zle⟩
    have hl := getE_lt hB
    simp only [hn B hl]
    rcases old B hl with ⟨b, hb⟩ | ⟨hm, hh⟩
    · obtain ⟨cs, ee, w1, _⟩ := r4 _ hb
      obtain ⟨_, ⟨w, cs', h1⟩, _⟩ := q.obj _ hb
      simp only at h1 w1
      rw [hB] at h1; injection h1 with h1; subst h1
      exact ⟨_, w1, .inr ⟨by trivial, trivial⟩⟩
    · rw [hh]
      have : ∃ x', H0[B]? = some x' := ⟨_, List.getElem?_eq_getElem (by rw [q.len]; exact hl)⟩
      obtain ⟨x', hx'⟩ := this
      refine ⟨x', hx', ?_⟩
      rcases q.kept B x' hx' hm with rfl | ⟨x0, h1, h2, _⟩
      · exact .inl rfl
      · rw [hB] at h1; injection h1 with h1; subst h1
        rcases h2 with rfl | rfl
        · rcases blkLe.rfl' x' with h | h
          · exact .inl h
          · exact .inr ⟨by trivial, h⟩
        · rcases blkLe_roB xx with h | h
          · exact .inl h
          · exact .inr ⟨by trivial, h⟩
  -- an entry of the new heap
  have ent : ∀ (B : Nat) z, y.H[B]? = some z → (B < c.H.length ∧ ∃ b cs ee, (B, b) ∈ O ∧ z = .obj true cs ∧ h3[b]? = some (some ⟨ee.length, [ee]⟩) ∧ Cas { p := c.p, H := y.H, m := newM c L, Z := Z3, h := h3 } cs ee) ∨
      (B < c.H.length ∧ B ∉ O.map Prod.fst ∧ H0[B]? = some z) ∨ (∃ j mb, B = c.H.length + j ∧ L[j]? = some mb ∧ NewF c.p Z3 h3 (some z) mb) := by
    intro B z hz
    by_cases hl : B < c.H.length
    · rcases old B hl with ⟨b, hb⟩ | ⟨hm, hh⟩
      · obtain ⟨cs, ee, w1, w2, w3⟩ := r4 _ hb
        simp only at w1
        rw [hz] at w1; injection w1 with w1
        exact .inl ⟨hl, b, cs, ee, hb, w1, w2, w3 _ at3⟩
      · exact .inr (.inl ⟨hl, hm, by rw [← hh]; exact hz⟩)
    · have h1 := getE_lt hz
      rw [r1, q.len] at h1
      obtain ⟨mb, hmb⟩ : ∃ mb, L[B - c.H.length]? = some mb := ⟨_, List.getElem?_eq_getElem (by omega)⟩
      have h2 := r3 _ mb hmb
      rw [q.len, show c.H.length + (B - c.H.length) = B by omega, hz] at h2
      exact .inr (.inr ⟨_, mb, by omega, hmb, h2⟩)
  have mnew : ∀ j mb, L[j]? = some mb → newM c L (c.H.length + j) = mb := fun j mb hj => by have := at3.m j mb hj; rw [q.len] at this; exact this
  refine ⟨_, rfl, ⟨q.p, ?_, ?_, ?_, ?_, q.base, q.zb, q.z0⟩, le, fun TI hfk t => r5 TI _ at3 hfk (fun z hz => ?_) t⟩
  · intro B z hz
    rcases ent B z hz with ⟨hl, b, cs, ee, hb, rfl, w2, w3⟩ | ⟨hl, hm, hh⟩ | ⟨j, mb, rfl, hj, t, xx, w1, w2⟩
    · simp only [hn B hl, BR]
      exact ⟨b, (q.obj _ hb).1, ee, w2, w3⟩
    · simp only [hn B hl]
      rcases q.kept B z hh hm with rfl | ⟨x0, h1, h2, h4⟩
      · trivial
      · have := (q.br B x0 h1).le le (fun i hi => (h4 i hi).1)
        rcases h2 with rfl | rfl
        · exact this
        · exact BR_roB this
    · injection w1 with w1; subst w1
      simp only [mnew j mb hj, BR]
      cases mb with
      | none => exact w2
      | some b => exact w2
  · intro B B' z z' b hz hz' hw hw' hm hm'
    simp only at hm hm'
    rcases ent B z hz with ⟨hl, b1, cs, ee, hb, rfl, w2, w3⟩ | ⟨hl, hno, hh⟩ | ⟨j, mb, rfl, hj, t, xx, w1, w2⟩
    · rw [hn B hl, (q.obj _ hb).1] at hm; simp at hm; subst hm
      rcases ent B' z' hz' with ⟨hl', b2, cs', ee', hb', rfl, w2', w3'⟩ | ⟨hl', hno', hh'⟩ | ⟨j', mb', rfl, hj', t', xx', w1', w2'⟩
      · rw [hn B' hl', (q.obj _ hb').1] at hm'; simp at hm'; subst hm'
        exact q.objI _ hb _ hb' rfl
      · rw [hn B' hl'] at hm'
        rcases q.kept B' z' hh' hno' with rfl | ⟨x0, h1, h2, h4⟩
        · cases hw'
        · exact (((h4 _ hm').2.1 hw').2.2.2 _ hb rfl).elim
      · rw [mnew j' mb' hj'] at hm'; subst hm'
        exact ((q.obj _ hb).2.2.2.2 (mem_fm hj')).elim
    · rw [hn B hl] at hm
      rcases ent B' z' hz' with ⟨hl', b2, cs', ee', hb', rfl, w2', w3'⟩ | ⟨hl', hno', hh'⟩ | ⟨j', mb', rfl, hj', t', xx', w1', w2'⟩
      · rw [hn B' hl', (q.obj _ hb').1] at hm'; simp at hm'; subst hm'
        rcases q.kept B z hh hno with rfl | ⟨x0, h1, h2, h4⟩
        · cases hw
        · exact (((h4 _ hm).2.1 hw).2.2.2 _ hb' rfl).elim
      · rw [hn B' hl'] at hm'
        exact q.inj B B' z z' b hh hh' hw hw' hm hm'
      · rw [mnew j' mb' hj'] at hm'; subst hm'
        rcases q.kept B z hh hno with rfl | ⟨x0, h1, h2, h4⟩
        · cases hw
        · exact (((h4 _ hm).2.1 hw).2.2.1 (mem_fm hj')).elim
    · rw [mnew j mb hj] at hm; subst hm
      rcases ent B' z' hz' with ⟨hl', b2, cs', ee', hb', rfl, w2', w3'⟩ | ⟨hl', hno', hh'⟩ | ⟨j', mb', rfl, hj', t', xx', w1', w2'⟩
      · rw [hn B' hl', (q.obj _ hb').1] at hm'; simp at hm'; subst hm'
        exact ((q.obj _ hb').2.2.2.2 (mem_fm hj)).elim
      · rw [hn B' hl'] at hm'
        rcases q.kept B' z' hh' hno' with rfl | ⟨x0, h1, h2, h4⟩
        · cases hw'
        · exact (((h4 _ hm').2.1 hw').2.2.1 (mem_fm hj)).elim
      · rw [mnew j' mb' hj'] at hm'; subst hm'
        rw [fm_inj q.ownN hj hj']
  · intro B z b hz hw hm
    simp only at hm
    rcases ent B z hz with ⟨hl, b1, cs, ee, hb, rfl, w2, w3⟩ | ⟨hl, hno, hh⟩ | ⟨j, mb, rfl, hj, t, xx, w1, w2⟩
    · rw [hn B hl, (q.obj _ hb).1] at hm; simp at hm; subst hm
      exact ⟨(q.obj _ hb).2.2.1, (q.obj _ hb).2.2.2.1⟩
    · rw [hn B hl] at hm
      rcases q.kept B z hh hno with rfl | ⟨x0, h1, h2, h4⟩
      · cases hw
      · exact ⟨((h4 _ hm).2.1 hw).1, ((h4 _ hm).2.1 hw).2.1⟩
    · rw [mnew j mb hj] at hm; subst hm
      exact q.own b (mem_fm hj)
  · intro B z b hz hw hg hm
    simp only at hm
    rcases ent B z hz with ⟨hl, b1, cs, ee, hb, rfl, w2, w3⟩ | ⟨hl, hno, hh⟩ | ⟨j, mb, rfl, hj, t, xx, w1, w2⟩
    · cases hw
    · rw [hn B hl] at hm
      rcases q.kept B z hh hno with rfl | ⟨x0, h1, h2, h4⟩
      · exact (hg rfl).elim
      · exact (h4 _ hm).2.2 hw
    · injection w1 with w1; subst w1; cases hw
  · have := q.obj z hz
    obtain ⟨cs, ee, w1, _⟩ := r4 z hz
    exact ⟨⟨cs, w1⟩, by simp only; rw [hn _ (getE_lt this.2.1.choose_spec.choose_spec)]; exact this.1⟩
end
end Go.Ideal
set_option linter.unusedVariables false
set_option linter.unusedSimpArgs false
set_option linter.unusedSectionVars false
namespace Go.Ideal
theorem iterN_mono {S X : Type} {f : S → Option (S ⊕ X)} : ∀ (n m : Nat) (s : S) (x : X), n ≤ m → iterN f n s = some x → iterN f m s = some x
  | 0, _, _, _, _, h => by simp [iterN] at h
  | n + 1, 0, _, _, h, _ => by omega
  | n + 1, m + 1, s, x, hl, h => by
    simp only [iterN] at h ⊢
    obtain ⟨r, h1, h2⟩ := bind_some'.1 h
    rw [h1]
    cases r with
    | inl s' => exact iterN_mono n m s' x (by omega) h2
    | inr x' => exact h2
theorem iterL_some {S X : Type} {f : S → Option (S ⊕ X)} {s : S} {x : X} : iterL f s = some x ↔ ∃ n, iterN f n s = some x :=
  lim_some (F := fun n => iterN f n s) (fun n m r hl h => iterN_mono n m s r hl h)
theorem iterL_eq {S X : Type} (f : S → Option (S ⊕ X)) (s : S) : iterL f s = (f s).bind fun r => match r with
    | .inl s => iterL f s
    | .inr x => some x := by
  have key : ∀ x, iterL f s = some x ↔ ((f s).bind fun r => match r with
    | .inl s => iterL f s
    | .inr x => some x) = some x := by
    intro x
    rw [iterL_some]
    constructor
    · rintro ⟨n, h⟩
      cases n with
      | zero => simp [iterN] at h
      | succ n =>
        simp only [iterN] at h
        obtain ⟨r, h1, h2⟩ := bind_some'.1 h
        rw [h1]
        cases r with
        | inl s' => exact iterL_some.2 ⟨n, h2⟩
        | inr x' => exact h2
    · intro h
      obtain ⟨r, h1, h2⟩ := bind_some'.1 h
      cases r with
      | inl s' =>
        obtain ⟨n, h3⟩ := iterL_some.1 h2
        exact ⟨n + 1, by simp only [iterN, h1, Option.bind_some]; exact h3⟩
      | inr x' => exact ⟨1, by simp only [iterN, h1, Option.bind_some]; exact h2⟩
  cases h : iterL f s with
  | some x => exact ((key x).1 h).symm
  | none =>
    cases h' : ((f s).bind fun r => match r with
    | .inl s => iterL f s
    | .inr x => some x) with
    | none => rfl
    | some x => rw [(key x).2 h'] at h; cases h
theorem roIf_get (l : List Nat) : ∀ (H : AHp) (o i : Nat), (roIf l o H)[i]? = (H[i]?).map fun x => if l.contains (o + i) then x else roB x
  | [], o, i => by simp [roIf]
  | x :: r, o, 0 => by simp [roIf]
  | x :: r, o, i + 1 => by
    simp only [roIf, List.getElem?_cons_succ]
    rw [roIf_get l r (o + 1) i, show o + 1 + i = o + (i + 1) by omega]
theorem goneIf_get (l : List Nat) (ro : Bool) : ∀ (H : AHp) (o i : Nat), (goneIf l ro o H)[i]? = (H[i]?).map fun x => if l.contains (o + i) then .gone else if ro then roB x else x
  | [], o, i => by simp [goneIf]
  | x :: r, o, 0 => by simp [goneIf]
  | x :: r, o, i + 1 => by
    simp only [goneIf, List.getElem?_cons_succ]
    rw [goneIf_get l ro r (o + 1) i, show o + 1 + i = o + (i + 1) by omega]
theorem roIf_len (l : List Nat) : ∀ (H : AHp) (o : Nat), (roIf l o H).length = H.length
  | [], _ => rfl
  | x :: r, o => by simp [roIf, roIf_len l r]
theorem goneIf_len (l : List Nat) (ro : Bool) : ∀ (H : AHp) (o : Nat), (goneIf l ro o H).length = H.length
  | [], _ => rfl
  | x :: r, o => by simp [goneIf, goneIf_len l ro r]
/-- A run within a run. -/
structure Sub (R : Run) (c : Cf) (gv : List Nat) (R1 : Run) : Prop where
  p : R1.p = R.p
  N : R1.N = c.h.length
  h0 : R1.h0 = c.h
  O0 : ∀ b, R1.O0 b ↔ ∃ B x, c.H[B]? = some x ∧ B ∈ gv ∧ x.wr = true ∧ c.m B = some b
  zl : ∀ b, c.Z b → R1.Z0 b
  zr : ∀ b, R1.Z0 b → c.Z b ∨ R1.O0 b
section
variable {R R1 : Run} {c : Cf} {gv : List Nat} (g : GH R c) (sb : Sub R c gv R1)
include g sb
theorem Sub.kept {i : Nat} {x : ABlk} {b : Nat} (hi : i ∉ gv) (hx : c.H[i]? = some x) (hg : x ≠ .gone) (hm : c.m i = some b) : b < R1.N ∧ ¬ R1.O0 b := by
  refine ⟨by rw [sb.N]; exact g.lt hx hg hm, fun ho => ?_⟩
  obtain ⟨B, x0, h1, h2, h3, h4⟩ := (sb.O0 b).1 ho
  by_cases hw : x.wr = true
  · exact hi (by rw [g.inj i B x x0 b hx h1 hw h3 hm h4]; exact h2)
  · have h5 := g.ro i x b hx (by simpa using hw) hg hm
    rcases (g.wr B x0 b h1 h3 h4).1 with h6 | h6
    · exact h5.2 h6
    · omega
theorem Sub.ours {b : Nat} (h : R1.O0 b ∨ R1.N ≤ b) : R.O0 b ∨ R.N ≤ b := by
  rcases h with h | h
  · obtain ⟨B, x0, h1, h2, h3, h4⟩ := (sb.O0 b).1 h
    exact (g.wr B x0 b h1 h3 h4).1
  · rw [sb.N] at h; exact .inr (Nat.le_trans g.base.1 h)
end
def Z3of (c : Cf) (u : Use) : Nat → Prop := fun b => c.Z b ∨ ∃ B ∈ u.frz, c.m B = some b
theorem nodupB_iff : ∀ {l : List Nat}, nodupB l = true ↔ l.Nodup
  | [] => by simp [nodupB]
  | x :: r => by simp [nodupB, nodupB_iff, List.nodup_cons]
theorem wrB_iff {H : AHp} {B : Nat} : wrB H B = true ↔ ∃ x, H[B]? = some x ∧ x.wr = true := by
  unfold wrB
  split
  · rename_i h; simp [h, ABlk.wr]
  · rename_i h; simp [h, ABlk.wr]
  · rename_i h1 h2
    constructor
    · intro h; cases h
    · rintro ⟨x, hx, hw⟩
      cases x with
      | arr w a b t l => simp only [ABlk.wr] at hw; subst hw; exact (h1 _ _ _ _ hx).elim
      | obj w cs => simp only [ABlk.wr] at hw; subst hw; exact (h2 _ hx).elim
      | gone => cases hw
structure UF (R : Run) (c : Cf) (u : Use) (L : Lo) (O : Oo) : Prop where
  own : ∀ b ∈ L.filterMap id, (R.O0 b ∨ R.N ≤ b) ∧ ¬ Z3of c u b
  ownN : (L.filterMap id).Nodup
  obj : ∀ q ∈ O, (R.O0 q.2 ∨ R.N ≤ q.2) ∧ ¬ Z3of c u q.2 ∧ q.2 ∉ L.filterMap id
  objN : (O.map Prod.fst).Nodup
  objI : ∀ q ∈ O, ∀ q' ∈ O, q.2 = q'.2 → q.1 = q'.1
  frz : ∀ b, (∃ B ∈ u.frz, c.m B = some b) → (R.O0 b ∨ R.N ≤ b) ∧ b < c.h.length
theorem use_ok {R : Run} {c : Cf} (g : GH R c) {u : Use} {L : Lo} {O : Oo} (h : UOk c u L O) (ok : u.ok c.H = true) : UF R c u L O := by
  simp only [Use.ok, Bool.and_eq_true, nodupB_iff, List.all_eq_true, Bool.not_eq_true', List.contains_eq_mem, decide_eq_false_iff_not, wrB_iff] at ok
  obtain ⟨⟨⟨k1, k2⟩, k3⟩, k4⟩ := ok
  have ow : ∀ b ∈ L.filterMap id, ∃ B ∈ u.own, c.m B = some b ∧ ∃ x, c.H[B]? = some x ∧ x.wr = true := fun b hb => by
    rw [h.own] at hb
    obtain ⟨B, hB, hm⟩ := List.mem_filterMap.1 hb
    exact ⟨B, hB, hm, h.w B hB⟩
  have ob : ∀ q ∈ O, q.1 ∈ u.obj ∧ c.m q.1 = some q.2 ∧ ∃ x, c.H[q.1]? = some x ∧ x.wr = true := fun q hq => by
    obtain ⟨h1, cs, h2⟩ := h.o q hq
    exact ⟨by rw [← h.obj]; exact List.mem_map.2 ⟨q, hq, rfl⟩, h1, _, h2, rfl⟩
  have nz : ∀ (B : Nat) x b, c.H[B]? = some x → x.wr = true → c.m B = some b → B ∉ u.frz → ¬ Z3of c u b := by
    rintro B x b h1 h2 h3 h4 (hz | ⟨B', hB', hm⟩)
    · exact (g.wr B x b h1 h2 h3).2 hz
    · obtain ⟨⟨⟨x', h5, h6⟩, _⟩, _⟩ := k3 B' hB'
      exact h4 (by rw [g.inj B B' x x' b h1 h5 h2 h6 h3 hm]; exact hB')
  refine ⟨fun b hb => ?_, ?_, fun q hq => ?_, by rw [h.obj]; exact k2, fun q hq q' hq' e => ?_, ?_⟩
  · obtain ⟨B, h1, h2, x, h3, h4⟩ := ow b hb
    exact ⟨(g.wr B x b h3 h4 h2).1, nz B x b h3 h4 h2 fun hf => (k3 B hf).1.2 h1⟩
  · rw [h.own]
    have : ∀ {l : List Nat}, l.Nodup → (∀ B ∈ l, ∃ x, c.H[B]? = some x ∧ x.wr = true) → (l.filterMap c.m).Nodup := by
      intro l
      induction l with
      | nil => intro _ _; simp
      | cons B l ih =>
        intro hn hw
        rw [List.nodup_cons] at hn
        have ih := ih hn.2 (fun B hB => hw B (by simp [hB]))
        cases hm : c.m B with
        | none => simp [hm]; exact ih
        | some b =>
          simp only [List.filterMap_cons, hm, List.nodup_cons]
          refine ⟨fun hb => ?_, ih⟩
          obtain ⟨B', hB', hm'⟩ := List.mem_filterMap.1 hb
          obtain ⟨x, h1, h2⟩ := hw B (by simp)
          obtain ⟨x', h3, h4⟩ := hw B' (by simp [hB'])
          exact hn.1 (by rw [g.inj B B' x x' b h1 h3 h2 h4 hm hm']; exact hB')
    exact this k1 h.w
  · obtain ⟨h1, h2, x, h3, h4⟩ := ob q hq
    refine ⟨(g.wr _ x _ h3 h4 h2).1, nz _ x _ h3 h4 h2 fun hf => (k3 _ hf).2 h1, fun hb => ?_⟩
    obtain ⟨B, h5, h6, x', h7, h8⟩ := ow _ hb
    have := g.inj B q.1 x' x _ h7 h3 h8 h4 h6 h2
    exact k4 B h5 (by rw [this]; exact h1)
  · obtain ⟨h1, h2, x, h3, h4⟩ := ob q hq
    obtain ⟨h1', h2', x', h3', h4'⟩ := ob q' hq'
    exact g.inj _ _ x x' _ h3 h3' h4 h4' h2 (by rw [e]; exact h2')
  · rintro b ⟨B, hB, hm⟩
    obtain ⟨⟨⟨x, h1, h2⟩, _⟩, _⟩ := k3 B hB
    exact ⟨(g.wr B x b h1 h2 hm).1, g.lt h1 (by intro e; subst e; cases h2) hm⟩
/-- The objects of a shape are told by what the slots were. -/
def objsOf (base : Nat → Option ASV) : Shp → List Nat
  | [] => []
  | (t, .obj _) :: r => (match base t with
    | some (.val (.ptr B (.st 0))) => [B]
    | _ => []) ++ objsOf base r
  | _ :: r => objsOf base r
theorem SF_objs {p : Bool} {Z : Nat → Prop} {h : Heap} {σ : Fr} {base : Nat → Option ASV} {fk : ASV → Option SV → Prop} : ∀ {sh : Shp} {x : DL sh.hs} {L : Lo} {O : Oo}, SF p Z h σ base fk sh x L O → O.map Prod.fst = objsOf base sh
  | [], x, L, O, f => by obtain ⟨_, rfl⟩ := f; rfl
  | (t, k) :: r, x, L, O, f => by
    obtain ⟨L1, L2, O1, O2, rfl, rfl, f1, f2⟩ := f
    have ih := SF_objs f2
    rw [List.map_append, ih]
    cases k with
    | keep => obtain ⟨_, _, rfl⟩ := f1; simp [objsOf]
    | val => obtain ⟨_, _, rfl⟩ := f1; simp [objsOf]
    | own => obtain ⟨_, _, _, _, _, rfl⟩ := f1; simp [objsOf]
    | box => obtain ⟨_, _, _, rfl⟩ := f1; simp [objsOf]
    | obj => obtain ⟨B, b, e, hb, _, _, _, rfl⟩ := f1; simp [objsOf, hb]
theorem SF_base {p : Bool} {Z : Nat → Prop} {h : Heap} {σ : Fr} {base : Nat → Option ASV} {fk : ASV → Option SV → Prop} : ∀ {sh : Shp} {x : DL sh.hs} {L : Lo} {O : Oo}, SF p Z h σ base fk sh x L O → ∀ q ∈ O, ∃ t, base t = some (.val (.ptr q.1 (.st 0)))
  | [], x, L, O, f => by obtain ⟨_, rfl⟩ := f; simp
  | (t, k) :: r, x, L, O, f => by
    obtain ⟨L1, L2, O1, O2, rfl, rfl, f1, f2⟩ := f
    intro q hq
    rcases List.mem_append.1 hq with hq | hq
    · cases k with
      | keep => obtain ⟨_, _, rfl⟩ := f1; simp at hq
      | val => obtain ⟨_, _, rfl⟩ := f1; simp at hq
      | own => obtain ⟨_, _, _, _, _, rfl⟩ := f1; simp at hq
      | box => obtain ⟨_, _, _, rfl⟩ := f1; simp at hq
      | obj => obtain ⟨B, b, e, hb, _, _, _, rfl⟩ := f1; simp at hq; subst hq; exact ⟨t, hb⟩
    · exact SF_base f2 q hq
section
variable {R R1 : Run} {c c2 : Cf} {gv : List Nat} (g : GH R c) (sb : Sub R c gv R1) (g2 : GH R1 c2) (le : Le c c2) {u : Use} {L : Lo} {O : Oo} (hu : UOk c2 u L O) (ok : u.ok c2.H = true)
  (hobj : ∀ q ∈ O, ∃ w cs, c.H[q.1]? = some (.obj w cs))
include g sb g2 le hu ok hobj
theorem objm : ∀ q ∈ O, c.m q.1 = some q.2 := fun q hq => by
  obtain ⟨w, cs, h⟩ := hobj q hq
  obtain ⟨h1, cs', h2⟩ := hu.o q hq
  obtain ⟨y, hy, e⟩ := le.H _ _ h
  rw [h2] at hy; injection hy with hy; subst hy
  rcases e with e | ⟨e, _⟩
  · cases e
  · rw [← e]; exact h1
/-- Leaving a run within a run. -/
theorem leave : Rsh R c (goneIf gv false 0 c.H) (Z3of c2 u) c2.h L O := by
  have uf := use_ok g2 hu ok
  have zsplit : ∀ b, Z3of c2 u b → R1.Z0 b ∨ (R1.O0 b ∨ R1.N ≤ b) := fun b hz => by
    rcases hz with hz | hz
    · exact (g2.zb b hz).2
    · exact .inr (uf.frz b hz).1
  have ext : ∀ b, c.Z b → c2.Z b := le.Z.z
  refine ⟨goneIf_len _ _ _ _, g.blk, g.p, ?_, ?_, fun q hq => ⟨objm g sb g2 le hu ok hobj q hq, hobj q hq, sb.ours g (uf.obj q hq).1, (uf.obj q hq).2.1, (uf.obj q hq).2.2⟩, uf.objN, uf.objI, fun b hb => ⟨sb.ours g (uf.own b hb).1, (uf.own b hb).2⟩, uf.ownN, ⟨fun b hb => .inl (ext b hb), le.Z.h⟩, ?_, fun b hb => .inl (ext b (g.z0 b hb)), ?_, ?_⟩
  · intro i x' hx' hi
    rw [goneIf_get] at hx'
    cases hx : c.H[i]? with
    | none => rw [hx] at hx'; cases hx'
    | some x =>
      rw [hx] at hx'
      simp only [Option.map_some, Nat.zero_add, Option.some.injEq, List.contains_eq_mem, decide_eq_true_eq, Bool.false_eq_true, if_false] at hx'
      split at hx'
      · exact .inl hx'.symm
      · rename_i hgv
        subst hx'
        by_cases hgo : x = .gone
        · exact .inl hgo
        refine .inr ⟨x, rfl, .inl rfl, fun b hb => ?_⟩
        have hk := sb.kept g hgv hx hgo hb
        refine ⟨by rw [g2.base.2 b hk.1 hk.2, sb.h0], fun hw => ?_, fun hw => g.ro i x b hx hw hgo hb⟩
        have hwr := g.wr i x b hx hw hb
        refine ⟨hwr.1, fun hz => ?_, fun hb' => ?_, fun q hq e => ?_⟩
        · rcases zsplit b hz with h | h | h
          · rcases sb.zr b h with h | h
            · exact hwr.2 h
            · exact hk.2 h
          · exact hk.2 h
          · omega
        · rcases (uf.own b hb').1 with h | h
          · exact hk.2 h
          · omega
        · subst e
          rcases (uf.obj q hq).1 with h | h
          · exact hk.2 h
          · omega
  · intro B B' x x' b hx hx' hw hw' hm hm'
    rw [goneIf_get] at hx hx'
    obtain ⟨x0, h0, rfl⟩ := Option.map_eq_some_iff.1 hx
    obtain ⟨x1, h1, rfl⟩ := Option.map_eq_some_iff.1 hx'
    simp only [Bool.false_eq_true, if_false] at hw hw'
    split at hw
    · cases hw
    · split at hw'
      · cases hw'
      · exact g.inj B B' x0 x1 b h0 h1 hw hw' hm hm'
  · intro b hz
    refine ⟨?_, ?_⟩
    · rcases hz with hz | hz
      · exact (g2.zb b hz).1
      · exact (uf.frz b hz).2
    · rcases zsplit b hz with h | h
      · rcases sb.zr b h with h | h
        · exact (g.zb b h).2
        · exact .inr (sb.ours g (.inl h))
      · exact .inr (sb.ours g h)
  · have := g2.base.1
    rw [sb.N] at this
    exact Nat.le_trans g.base.1 this
  · intro b hb ho
    have h1 : b < R1.N := by rw [sb.N]; exact Nat.lt_of_lt_of_le hb g.base.1
    have h2 : ¬ R1.O0 b := fun h => by
      rcases sb.ours g (.inl h) with h | h
      · exact ho h
      · omega
    rw [g2.base.2 b h1 h2, sb.h0]
    exact g.base.2 b hb ho
/-- Going on within it. -/
theorem goOn {gs : List Nat} (hgs : ∀ i, i ∉ gs → i ∉ O.map Prod.fst → i ∉ gv) : Rsh R1 c (goneIf gs true 0 c.H) (Z3of c2 u) c2.h L O := by
  have uf := use_ok g2 hu ok
  have ext : ∀ b, c.Z b → c2.Z b := le.Z.z
  refine ⟨goneIf_len _ _ _ _, g.blk, g.p.trans sb.p.symm, ?_, ?_, fun q hq => ⟨objm g sb g2 le hu ok hobj q hq, hobj q hq, (uf.obj q hq).1, (uf.obj q hq).2.1, (uf.obj q hq).2.2⟩, uf.objN, uf.objI, fun b hb => ⟨(uf.own b hb).1, (uf.own b hb).2⟩, uf.ownN, ⟨fun b hb => .inl (ext b hb), le.Z.h⟩, ?_, fun b hb => .inl (g2.z0 b hb), g2.base⟩
  · intro i x' hx' hi
    rw [goneIf_get] at hx'
    cases hx : c.H[i]? with
    | none => rw [hx] at hx'; cases hx'
    | some x =>
      rw [hx] at hx'
      simp only [Option.map_some, Nat.zero_add, Option.some.injEq, List.contains_eq_mem, decide_eq_true_eq, if_true] at hx'
      split at hx'
      · exact .inl hx'.symm
      · rename_i hg
        subst hx'
        by_cases hgo : x = .gone
        · subst hgo; exact .inl rfl
        refine .inr ⟨x, rfl, .inr rfl, fun b hb => ?_⟩
        have hk := sb.kept g (hgs i hg hi) hx hgo hb
        refine ⟨by rw [g2.base.2 b hk.1 hk.2, sb.h0], fun hw => ?_, fun _ => hk⟩
        rw [roB_wr] at hw; cases hw
  · intro B B' x x' b hx hx' hw hw' hm hm'
    rw [goneIf_get] at hx
    obtain ⟨x0, h0, rfl⟩ := Option.map_eq_some_iff.1 hx
    simp only [if_true] at hw
    split at hw
    · cases hw
    · rw [roB_wr] at hw; cases hw
  · intro b hz
    rcases hz with hz | hz
    · exact g2.zb b hz
    · exact ⟨(uf.frz b hz).2, .inr (uf.frz b hz).1⟩
end
/-- A loop begins. -/
theorem enter {R : Run} {c : Cf} (g : GH R c) {u : Use} {L : Lo} {O : Oo} (hu : UOk c u L O) (ok : u.ok c.H = true) (R1 : Run)
    (hR : R1 = { p := R.p, N := c.h.length, O0 := fun b => ∃ B x, c.H[B]? = some x ∧ B ∈ u.own ++ u.frz ++ u.obj ∧ x.wr = true ∧ c.m B = some b, h0 := c.h, Z0 := Z3of c u }) :
    Sub R c (u.own ++ u.frz ++ u.obj) R1 ∧ Rsh R1 c (goneIf (u.own ++ u.frz) true 0 c.H) (Z3of c u) c.h L O := by
  have uf := use_ok g hu ok
  have ok' := ok
  simp only [Use.ok, Bool.and_eq_true, nodupB_iff, List.all_eq_true, Bool.not_eq_true', List.contains_eq_mem, decide_eq_false_iff_not, wrB_iff] at ok'
  obtain ⟨⟨⟨k1, k2⟩, k3⟩, k4⟩ := ok'
  have sb : Sub R c (u.own ++ u.frz ++ u.obj) R1 := by
    subst hR
    refine ⟨rfl, rfl, rfl, fun b => Iff.rfl, fun b hb => .inl hb, fun b hb => ?_⟩
    rcases hb with hb | ⟨B, hB, hm⟩
    · exact .inl hb
    · obtain ⟨⟨⟨x, h1, h2⟩, _⟩, _⟩ := k3 B hB
      exact .inr ⟨B, x, h1, by simp [hB], h2, hm⟩
  refine ⟨sb, ?_⟩
  have hO : ∀ q ∈ O, R1.O0 q.2 := fun q hq => by
    obtain ⟨h1, cs, h2⟩ := hu.o q hq
    exact (sb.O0 _).2 ⟨q.1, _, h2, by rw [← hu.obj]; simp only [List.mem_append]; exact .inr (List.mem_map.2 ⟨q, hq, rfl⟩), rfl, h1⟩
  refine ⟨goneIf_len _ _ _ _, g.blk, g.p.trans sb.p.symm, ?_, ?_, fun q hq => ⟨(hu.o q hq).1, ?_, .inl (hO q hq), (uf.obj q hq).2⟩, uf.objN, uf.objI, fun b hb => ⟨.inl ?_, (uf.own b hb).2⟩, uf.ownN, ⟨fun b hb => .inl hb, fun _ _ => rfl⟩, ?_, ?_, ?_⟩
  · intro i x' hx' hi
    rw [goneIf_get] at hx'
    cases hx : c.H[i]? with
    | none => rw [hx] at hx'; cases hx'
    | some x =>
      rw [hx] at hx'
      simp only [Option.map_some, Nat.zero_add, Option.some.injEq, List.contains_eq_mem, decide_eq_true_eq, if_true] at hx'
      split at hx'
      · exact .inl hx'.symm
      · rename_i hg
        subst hx'
        by_cases hgo : x = .gone
        · subst hgo; exact .inl rfl
        refine .inr ⟨x, rfl, .inr rfl, fun b hb => ?_⟩
        have hk := sb.kept g (i := i) (by
          rw [hu.obj] at hi
          simp only [List.mem_append, not_or] at hg ⊢
          exact ⟨hg, hi⟩) hx hgo hb
        refine ⟨rfl, fun hw => ?_, fun _ => hk⟩
        rw [roB_wr] at hw; cases hw
  · intro B B' x x' b hx hx' hw hw' hm hm'
    rw [goneIf_get] at hx
    obtain ⟨x0, h0, rfl⟩ := Option.map_eq_some_iff.1 hx
    simp only [if_true] at hw
    split at hw
    · cases hw
    · rw [roB_wr] at hw; cases hw
  · obtain ⟨_, cs, h⟩ := hu.o q hq; exact ⟨_, _, h⟩
  · rw [hu.own] at hb
    obtain ⟨B, hB, hm⟩ := List.mem_filterMap.1 hb
    obtain ⟨x, h1, h2⟩ := hu.w B hB
    exact (sb.O0 b).2 ⟨B, x, h1, by simp [hB], h2, hm⟩
  · intro b hz
    refine ⟨?_, .inl (by rw [hR]; exact hz)⟩
    rcases hz with hz | hz
    · exact (g.zb b hz).1
    · exact (uf.frz b hz).2
  · intro b hb; rw [hR] at hb; exact hb
  · rw [hR]; exact ⟨Nat.le_refl _, fun b _ _ => rfl⟩
end Go.Ideal
set_option linter.unusedVariables false
set_option linter.unusedSimpArgs false
set_option linter.unusedSectionVars false
namespace Go.Ideal
theorem evIts_app {call : Nat → List IV → Heap → Option (IV × Heap)} {opn : Nat → Bool} : ∀ {a b : List Item} {s : St}, evIts call opn (a ++ b) s = (evIts call opn a s).bind fun s => evIts call opn b s
  | [], b, s => rfl
  | it :: a, b, s => by
    simp only [List.cons_append, evIts]
    cases evIt call opn it s with
    | none => rfl
    | some s1 => simp only [Option.bind_some]; exact evIts_app
theorem evBs_flat {call : Nat → List IV → Heap → Option (IV × Heap)} {opn : Nat → Bool} : ∀ {bs : List DB} {s : St}, bs.all (fun b => b.cs.isEmpty) = true → evBs call opn bs s = evIts call opn (bs.flatMap fun b => b.w :: b.qs) s
  | [], s, _ => rfl
  | b :: r, s, h => by
    simp only [List.all_cons, Bool.and_eq_true, List.isEmpty_iff] at h
    simp only [evBs, List.flatMap_cons, List.cons_append, evIts, evIts_app]
    cases evIt call opn b.w s with
    | none => rfl
    | some s1 =>
      simp only [Option.bind_some, h.1, sames, List.all_nil, if_true]
      cases evIts call opn b.qs s1 with
      | none => rfl
      | some s2 => simp only [Option.bind_some]; exact evBs_flat h.2
/-- Slots that are constants within, and what they hold. -/
structure Cst (T : List ASV) (TI : List SV) (σ : Fr) (c : Cf) (i : Nat) (y : AFr × List ASV × List (Nat × Nat)) (TJ : List SV) : Prop where
  len : TJ.length = y.2.1.length
  T : ∀ (j : Nat) a, y.2.1[j]? = some a → ∃ sv, TJ[j]? = some sv ∧ SVa c a sv
  tl : ∀ s ∈ TJ, ∀ n o, s ≠ SV.lptr n o
  fr : ∀ t v, y.1.get t = some v → ((∀ k, v ≠ .cst k) ∧ ∃ sv, σ.get t = some sv ∧ SVa c v sv) ∨ ∃ j sv, v = .cst (i + j) ∧ TJ[j]? = some sv ∧ σ.get t = some sv
  pos : ∀ t k, (t, k) ∈ y.2.2 → ∃ j sv, k = i + j ∧ TJ[j]? = some sv ∧ σ.get t = some sv
theorem Cst.cons {T : List ASV} {TI : List SV} {σ : Fr} {c : Cf} {i : Nat} {y : AFr × List ASV × List (Nat × Nat)} {TJ : List SV} (h : Cst T TI σ c (i + 1) y TJ) {t : Nat} {a : ASV} {sv : SV} (ha : σ.get t = some sv) (hv : SVa c a sv) (hb : ∀ n o, sv ≠ .lptr n o) :
    Cst T TI σ c i ((t, .cst i) :: y.1, a :: y.2.1, (t, i) :: y.2.2) (sv :: TJ) := by
  refine ⟨by simp [h.len], fun j b hj => ?_, fun s hs => ?_, fun t' v hv' => ?_, fun t' k hk => ?_⟩
  · cases j with
    | zero => simp at hj; subst hj; exact ⟨sv, rfl, hv⟩
    | succ j => simpa using h.T j b (by simpa using hj)
  · rcases List.mem_cons.1 hs with rfl | hs
    · exact hb
    · exact h.tl s hs
  · simp only [AFr.get] at hv'
    split at hv'
    · rename_i e; subst e
      simp at hv'; subst hv'
      exact .inr ⟨0, sv, rfl, rfl, ha⟩
    · rcases h.fr t' v hv' with h1 | ⟨j, s, h1, h2, h3⟩
      · exact .inl h1
      · exact .inr ⟨j + 1, s, by rw [h1]; congr 1; omega, by simpa using h2, h3⟩
  · simp only [List.mem_cons, Prod.mk.injEq] at hk
    rcases hk with ⟨rfl, rfl⟩ | hk
    · exact ⟨0, sv, rfl, rfl, ha⟩
    · obtain ⟨j, s, h1, h2, h3⟩ := h.pos t' k hk
      exact ⟨j + 1, s, by omega, by simpa using h2, h3⟩
theorem Cst.raw {T : List ASV} {TI : List SV} {σ : Fr} {c : Cf} {i : Nat} {y : AFr × List ASV × List (Nat × Nat)} {TJ : List SV} (h : Cst T TI σ c i y TJ) {t : Nat} {a : ASV} {sv : SV} (ha : σ.get t = some sv) (hv : SVa c a sv) (hc : ∀ k, a ≠ .cst k) :
    Cst T TI σ c i ((t, a) :: y.1, y.2) TJ := by
  refine ⟨h.len, h.T, h.tl, fun t' v hv' => ?_, h.pos⟩
  simp only [AFr.get] at hv'
  split at hv'
  · rename_i e; subst e
    simp at hv'; subst hv'
    exact .inl ⟨hc, sv, ha, hv⟩
  · exact h.fr t' v hv'
section
variable {T : List ASV} {TI : List SV} {c : Cf} {fr : AFr} {σ : Fr} (g : GF T TI c fr σ)
include g
theorem constS_ok (raw : List Nat) : ∀ (l : AFr) (i : Nat), ∃ TJ, Cst T TI σ c i (constS T fr raw l i) TJ ∧ ∀ t, (constS T fr raw l i).1.get t = none → l.get t = none ∨ ∀ cs, σ.get t ≠ some (.box cs)
  | [], i => ⟨[], ⟨rfl, by simp [constS], by simp, by simp [constS, AFr.get], by simp [constS]⟩, fun t _ => .inl rfl⟩
  | (t, v0) :: r, i => by
    have none' : ∀ {y : AFr}, (∀ t', y.get t' = none → AFr.get r t' = none ∨ ∀ cs, σ.get t' ≠ some (.box cs)) → ∀ v1, ∀ t', (AFr.get ((t, v1) :: y) t' = none → AFr.get ((t, v0) :: r) t' = none ∨ ∀ cs, σ.get t' ≠ some (.box cs)) := by
      intro y hy v1 t' h
      simp only [AFr.get] at h ⊢
      split at h
      · cases h
      · rename_i hne; rw [if_neg hne]; exact hy t' h
    simp only [constS]
    split
    · rename_i a ha
      obtain ⟨sv, h1, h2⟩ := aget_ok g ha
      split
      · obtain ⟨TJ, h3, h4⟩ := constS_ok raw r i
        exact ⟨TJ, h3.raw h1 h2 (by simp), none' h4 _⟩
      · obtain ⟨TJ, h3, h4⟩ := constS_ok raw r (i + 1)
        exact ⟨sv :: TJ, h3.cons h1 h2 (by rintro n o rfl; simp [SVa] at h2), none' h4 _⟩
    · rename_i a ha
      obtain ⟨sv, h1, h2⟩ := aget_ok g ha
      split
      · obtain ⟨TJ, h3, h4⟩ := constS_ok raw r i
        exact ⟨TJ, h3.raw h1 h2 (by simp), none' h4 _⟩
      · obtain ⟨TJ, h3, h4⟩ := constS_ok raw r (i + 1)
        exact ⟨sv :: TJ, h3.cons h1 h2 (by rintro n o rfl; simp [SVa] at h2), none' h4 _⟩
    · rename_i hn1 hn2
      obtain ⟨TJ, h3, h4⟩ := constS_ok raw r i
      refine ⟨TJ, h3, fun t' h => ?_⟩
      simp only [AFr.get]
      by_cases e : t = t'
      · subst e
        rw [if_pos rfl]
        right
        intro cs hcs
        have := g.fr t
        cases hf : fr.get t with
        | none => rw [hf] at this; exact this cs hcs
        | some a =>
          rw [hf] at this
          cases a with
          | val a => exact hn1 a (by simp [aget, hf])
          | box a => exact hn2 a (by simp [aget, hf])
          | lptr n o =>
            obtain ⟨s, h1, h2⟩ := this
            rw [hcs] at h1; injection h1 with h1; subst h1; simp [SVa] at h2
          | cst k =>
            obtain ⟨s, h1, h2⟩ := this
            rw [hcs] at h1; injection h1 with h1; subst h1
            have hl := getE_lt h2
            rw [g.len] at hl
            obtain ⟨s', h5, h6⟩ := g.T k _ (List.getElem?_eq_getElem hl)
            rw [h2] at h5; injection h5 with h5; subst h5
            have ha : aget T fr t = some (T[k]) := by simp [aget, hf, List.getElem?_eq_getElem hl]
            cases hTk : T[k] with
            | val a => exact hn1 a (by rw [ha, hTk])
            | box a => exact hn2 a (by rw [ha, hTk])
            | lptr _ _ => rw [hTk] at h6; simp [SVa] at h6
            | cst _ => rw [hTk] at h6; simp [SVa] at h6
      · rw [if_neg e]; exact h4 t' h
theorem keepsOf_ok : ∀ (l : Shp) (i : Nat), ∃ TJ, Cst T TI σ c i (keepsOf T fr l i) TJ
  | [], i => ⟨[], ⟨rfl, by simp [keepsOf], by simp, by simp [keepsOf, AFr.get], by simp [keepsOf]⟩⟩
  | (t, k) :: r, i => by
    cases k with
    | keep =>
      simp only [keepsOf]
      split
      · rename_i a ha
        obtain ⟨sv, h1, h2⟩ := aget_ok g ha
        obtain ⟨TJ, h3⟩ := keepsOf_ok r (i + 1)
        exact ⟨sv :: TJ, h3.cons h1 h2 (by rintro n o rfl; simp [SVa] at h2)⟩
      · rename_i a ha
        obtain ⟨sv, h1, h2⟩ := aget_ok g ha
        obtain ⟨TJ, h3⟩ := keepsOf_ok r (i + 1)
        exact ⟨sv :: TJ, h3.cons h1 h2 (by rintro n o rfl; simp [SVa] at h2)⟩
      · exact keepsOf_ok r i
    | val => exact keepsOf_ok r i
    | own => exact keepsOf_ok r i
    | box => exact keepsOf_ok r i
    | obj => exact keepsOf_ok r i
end
theorem posOf_ok {T : List ASV} {TI : List SV} {σ : Fr} {c : Cf} {y : AFr × List ASV × List (Nat × Nat)} {TJ : List SV} (h : Cst T TI σ c 0 y TJ) {t i : Nat} (e : posOf y.2.2 t = some i) : ∃ sv, TJ[i]? = some sv ∧ σ.get t = some sv := by
  unfold posOf at e
  obtain ⟨q, h1, rfl⟩ := Option.map_eq_some_iff.1 e
  have h2 := List.mem_of_find?_eq_some h1
  have h3 := List.find?_some h1
  simp only [beq_iff_eq] at h3
  obtain ⟨j, sv, h4, h5, h6⟩ := h.pos q.1 q.2 h2
  simp only [Nat.zero_add] at h4
  exact ⟨sv, by rw [h4]; exact h5, by rw [← h3]; exact h6⟩
theorem abs_eq {T : List ASV} {pos : Nat → Option Nat} {base : Nat → Option ASV} {chk : Bool} {st : ASt} {sh : Shp} {x : (rowTy sh.hs).den × Use} (e : abs T pos base chk st sh = some x) :
    ∃ d, absS T pos base chk st sh = some (d, x.2) ∧ x.1 = pack d ∧ x.2.ok st.H = true ∧ boxesIn T st.fr sh = true := by
  unfold abs at e
  obtain ⟨y, e1, e⟩ := bind_some'.1 e
  split at e
  · rename_i h
    simp only [Bool.and_eq_true] at h
    simp at e; subst e
    exact ⟨y.1, e1, rfl, h.1, h.2⟩
  · cases e
theorem absX_inv {Rr : Type} {T : List ASV} {pos : Nat → Option Nat} {base base' : Nat → Option ASV} {ex : Ex} {st : ASt} {H : AHp} {k : Ex → ASt → Option Rr} {r : Rr} : ∀ {xs : List (Ex × Shp)} {v : XT xs}, absX T pos base ex st xs = some v → invX base' H xs v k = some r →
    ∃ sh x y, abs T pos base true st sh = some x ∧ inv base' sh x.1 H = some y ∧ k ex y = some r
  | [], v, e, _ => by simp [absX] at e
  | [x], v, e, e' => by
    simp only [absX] at e
    split at e
    · rename_i hx; subst hx
      obtain ⟨y, e1, e⟩ := bind_some'.1 e
      injection e with e; subst e
      simp only [invX] at e'
      obtain ⟨z, e2, e'⟩ := bind_some'.1 e'
      exact ⟨x.2, y, z, e1, e2, e'⟩
    · cases e
  | x :: w :: xs, v, e, e' => by
    simp only [absX] at e
    split at e
    · rename_i hx; subst hx
      obtain ⟨y, e1, e⟩ := bind_some'.1 e
      injection e with e; subst e
      simp only [invX] at e'
      obtain ⟨z, e2, e'⟩ := bind_some'.1 e'
      exact ⟨x.2, y, z, e1, e2, e'⟩
    · obtain ⟨z, e1, e⟩ := bind_some'.1 e
      injection e with e; subst e
      simp only [invX] at e'
      exact absX_inv e1 e'
/-- A box that lives is one of the shape's slots. -/
theorem boxes_ok {T : List ASV} {TI : List SV} {c : Cf} {st : ASt} {σ : Fr} (g : GF T TI c st.fr σ) {sh : Shp} (h : boxesIn T st.fr sh = true) {t : Nat} (hn : ∀ q ∈ sh, q.1 ≠ t) : ∀ cs, σ.get t ≠ some (.box cs) := by
  intro cs hcs
  have hf := afree_ok g (t := t)
  have h0 := g.fr t
  cases hg : st.fr.get t with
  | none => rw [hg] at h0; exact h0 cs hcs
  | some a =>
    have hm : ∃ v, (t, v) ∈ st.fr := by
      have : ∀ {l : AFr} {v}, l.get t = some v → ∃ v, (t, v) ∈ l := by
        intro l
        induction l with
        | nil => intro v h; cases h
        | cons p l ih =>
          intro v h
          obtain ⟨q, w⟩ := p
          simp only [AFr.get] at h
          split at h
          · rename_i e; subst e; exact ⟨w, by simp⟩
          · obtain ⟨v', hv'⟩ := ih h; exact ⟨v', by simp [hv']⟩
      exact this hg
    obtain ⟨v, hv⟩ := hm
    have := List.all_eq_true.1 h _ hv
    simp only [Bool.or_eq_true, List.any_eq_true, beq_iff_eq] at this
    rcases this with h1 | ⟨q, hq, e⟩
    · have := hf h1
      unfold lptrFree at this
      rw [hcs] at this; cases this
    · exact hn q hq e
section
variable {prog : Nat → Option SFn} {opn : Nat → Bool} {cs : Nat → Option Ct} {ety : Nat → Option Ty} {icall : ∀ R : Type, Nat → List AV → AHp → (AV → AHp → Option R) → Option R}
def CodeOk (prog : Nat → Option SFn) (opn : Nat → Bool) (cs : Nat → Option Ct) (ety : Nat → Option Ty) (icall : ∀ R : Type, Nat → List AV → AHp → (AV → AHp → Option R) → Option R) (code : ACode) : Prop :=
  ∀ {Rr : Type} {T : List ASV} {st : ASt} {k : Ex → ASt → Option Rr} {r : Rr}, aC cs opn ety icall (fun _ _ => iterL) code T st k = some r →
    ∀ {R : Run} {TI : List SV} {c : Cf} {s : St}, G R T TI c st s →
      ∃ ex s', evL prog opn code.erase s = some (ex, s') ∧ ∃ st' c', G R T TI c' st' s' ∧ Le c c' ∧ k ex st' = some r
variable (hcs : ∀ f ct, cs f = some ct → CtOk prog opn f ct) (hic : ∀ R, ICallOk prog opn (icall R))
include hcs hic
/-- A state is taken as data and made anew, back in the run that was there. -/
theorem leave_ok {R R1 : Run} {T T' : List ASV} {TI TJ : List SV} {c c2 : Cf} {st st2 : ASt} {s s2 : St} {gv : List Nat} (g : G R T TI c st s) (sb : Sub R c gv R1) (g2 : G R1 T' TJ c2 st2 s2) (le : Le c c2) {pos : Nat → Option Nat}
    (hpos : ∀ t i, pos t = some i → ∃ sv, TJ[i]? = some sv ∧ s.1.get t = some sv) {sh : Shp} {x : (rowTy sh.hs).den × Use} {y : ASt} (e : abs T' pos (baseOf T st.fr) true st2 sh = some x) (e2 : inv (baseOf T st.fr) sh x.1 (goneIf gv false 0 st.H) = some y) :
    ∃ c3, G R T TI c3 y s2 ∧ Le c c3 := by
  obtain ⟨d, e1, e3, ok, hbx⟩ := abs_eq e
  rw [e3] at e2
  simp only [inv, unpack_pack] at e2
  let fk : ASV → Option SV → Prop := fun a v => match a with
    | .cst i => ∃ sv, v = some sv ∧ TI[i]? = some sv
    | a => ∃ sv, v = some sv ∧ SVa c a sv
  have bfk : ∀ t a, baseOf T st.fr t = some a → fk a (s.1.get t) := by
    intro t a ha
    unfold baseOf at ha
    split at ha
    · rename_i i hi
      simp at ha; subst ha
      have := g.gf.fr t
      rw [hi] at this
      exact this
    · obtain ⟨sv, h1, h2⟩ := aget_ok g.gf ha
      cases a with
      | cst i => cases sv <;> simp [SVa] at h2
      | val _ => exact ⟨sv, h1, h2⟩
      | box _ => exact ⟨sv, h1, h2⟩
      | lptr _ _ => exact ⟨sv, h1, h2⟩
  have hk : ∀ t, (∃ i, st2.fr.get t = some (.cst i) ∧ pos t = some i) → ∀ a, baseOf T st.fr t = some a → fk a (s2.1.get t) := by
    rintro t ⟨i, h1, h2⟩ a ha
    obtain ⟨sv, h3, h4⟩ := hpos t i h2
    have := g2.gf.fr t
    rw [h1] at this
    obtain ⟨sv2, h7, h8⟩ := this
    rw [h3] at h8; injection h8 with h8; subst h8
    have := bfk t a ha
    rw [h4] at this
    rw [h7]; exact this
  obtain ⟨L, O, f, hu⟩ := absS_ok (fk := fk) (Z := Z3of c2 x.2) g2.gh.blk (fun b hb => .inl hb) g2.H g2.gf hk (.inl rfl) e1 (fun B hB b hm => .inr ⟨B, hB, hm⟩)
  have hobj : ∀ q ∈ O, ∃ w cs, c.H[q.1]? = some (.obj w cs) := fun q hq => by
    obtain ⟨t, ht⟩ := SF_base f q hq
    have hb := bfk t _ ht
    obtain ⟨sv, h1, h2⟩ := hb
    cases sv <;> simp only [SVa, Va] at h2
    rcases h2.2 with h | ⟨wr, cs', b, h, _⟩
    · have := le.gone h
      obtain ⟨_, cs, h3⟩ := hu.o q hq
      rw [this] at h3; cases h3
    · exact ⟨_, _, h⟩
  rw [← g2.H] at ok
  have rs := leave g.gh sb g2.gh le hu ok hobj
  rw [← g.H] at e2
  have hp : c2.p = c.p := le.p
  rw [hp] at f
  obtain ⟨c3, hc3, g3, le3, h3⟩ := reshape rs f e2
  refine ⟨c3, ⟨g3, by rw [hc3], by rw [hc3]; exact g2.h, ⟨fun t => ?_, g.gf.len, fun i a h => ?_, g.gf.tl⟩⟩, le3⟩
  · rcases h3 TI (fun a v hv => by
      cases a with
      | cst i => exact hv
      | val _ => obtain ⟨sv, rfl, hv⟩ := hv; exact ⟨sv, rfl, hv.le le3⟩
      | box _ => obtain ⟨sv, rfl, hv⟩ := hv; exact ⟨sv, rfl, hv.le le3⟩
      | lptr _ _ => obtain ⟨sv, rfl, hv⟩ := hv; exact ⟨sv, rfl, hv.le le3⟩) t with h | ⟨h, h'⟩
    · exact h
    · rw [h]; exact boxes_ok g2.gf hbx h'
  · obtain ⟨sv, h1, h2⟩ := g.gf.T i a h
    exact ⟨sv, h1, h2.le le3⟩
theorem join_ok {raw : List Nat} {exits : List (Ex × Shp)} {cd : ACode} (ih : CodeOk prog opn cs ety icall cd) : CodeOk prog opn cs ety icall (.join raw exits cd) := by
  intro Rr T st k r e R TI c s g
  simp only [aC] at e
  obtain ⟨v, e1, e2⟩ := bind_some'.1 e
  obtain ⟨TJ, hC, hN⟩ := constS_ok g.gf raw st.fr 0
  -- the run within
  let gv := raw.flatMap (leadsS T st)
  let R1 : Run := { p := R.p, N := c.h.length, O0 := fun b => ∃ B x, c.H[B]? = some x ∧ B ∈ gv ∧ x.wr = true ∧ c.m B = some b, h0 := c.h, Z0 := c.Z }
  have sb : Sub R c gv R1 := ⟨rfl, rfl, rfl, fun b => Iff.rfl, fun b h => h, fun b h => .inl h⟩
  let c1 : Cf := { c with H := roIf gv 0 st.H }
  have hget : ∀ (i : Nat) x', c1.H[i]? = some x' → ∃ x, c.H[i]? = some x ∧ ((i ∈ gv ∧ x' = x) ∨ (i ∉ gv ∧ x' = roB x)) := fun i x' h => by
    simp only [c1] at h
    rw [roIf_get, ← g.H] at h
    obtain ⟨x, h1, h2⟩ := Option.map_eq_some_iff.1 h
    simp only [Nat.zero_add, List.contains_eq_mem, decide_eq_true_eq] at h2
    split at h2
    · rename_i hm; exact ⟨x, h1, .inl ⟨hm, h2.symm⟩⟩
    · rename_i hm; exact ⟨x, h1, .inr ⟨hm, h2.symm⟩⟩
  have le1 : Le c c1 := by
    refine ⟨rfl, fun B x hB => ?_, ⟨fun _ h => h, fun _ _ => rfl⟩⟩
    have : c1.H[B]? = some (if gv.contains (0 + B) then x else roB x) := by
      simp only [c1]; rw [roIf_get, ← g.H, hB]; rfl
    refine ⟨_, this, ?_⟩
    split
    · rcases blkLe.rfl' x with h | h
      · exact .inl h
      · exact .inr ⟨rfl, h⟩
    · rcases blkLe_roB x with h | h
      · exact .inl h
      · exact .inr ⟨rfl, h⟩
  have gh1 : GH R1 c1 := by
    refine ⟨g.gh.p, ?_, ?_, ?_, ?_, ⟨Nat.le_refl _, fun b _ _ => rfl⟩, fun b hb => ⟨(g.gh.zb b hb).1, .inl hb⟩, fun b hb => hb⟩
    · intro B x' hB
      obtain ⟨x, h1, h2⟩ := hget B x' hB
      have := (g.gh.blk B x h1).le le1 (fun _ _ => rfl)
      rcases h2 with ⟨_, rfl⟩ | ⟨_, rfl⟩
      · exact this
      · exact BR_roB this
    · intro B B' x x' b hB hB' hw hw' hm hm'
      obtain ⟨x0, h1, h2⟩ := hget B x hB
      obtain ⟨x1, h3, h4⟩ := hget B' x' hB'
      rcases h2 with ⟨_, rfl⟩ | ⟨_, rfl⟩
      · rcases h4 with ⟨_, rfl⟩ | ⟨_, rfl⟩
        · exact g.gh.inj B B' _ _ b h1 h3 hw hw' hm hm'
        · rw [roB_wr] at hw'; cases hw'
      · rw [roB_wr] at hw; cases hw
    · intro B x b hB hw hm
      obtain ⟨x0, h1, h2⟩ := hget B x hB
      rcases h2 with ⟨h, rfl⟩ | ⟨_, rfl⟩
      · exact ⟨.inl ⟨B, x, h1, h, hw, hm⟩, (g.gh.wr B x b h1 hw hm).2⟩
      · rw [roB_wr] at hw; cases hw
    · intro B x b hB hw hg hm
      obtain ⟨x0, h1, h2⟩ := hget B x hB
      rcases h2 with ⟨h, rfl⟩ | ⟨h, rfl⟩
      · refine ⟨g.gh.lt h1 hg hm, ?_⟩
        rintro ⟨B', x', h3, h4, h5, h6⟩
        have h7 := g.gh.ro B x b h1 hw hg hm
        rcases (g.gh.wr B' x' b h3 h5 h6).1 with h8 | h8
        · exact h7.2 h8
        · omega
      · exact sb.kept g.gh h h1 (by intro e; subst e; exact hg rfl) hm
  have g1 : G R1 (constS T st.fr raw st.fr 0).2.1 TJ c1 ⟨(constS T st.fr raw st.fr 0).1, roIf gv 0 st.H⟩ s := by
    refine ⟨gh1, rfl, g.h, ⟨fun t => ?_, hC.len, fun i a h => ?_, hC.tl⟩⟩
    · cases h : (constS T st.fr raw st.fr 0).1.get t with
      | none =>
        rcases hN t h with h | h
        · have := g.gf.fr t; rw [h] at this; exact this
        · exact h
      | some v =>
        rcases hC.fr t v h with ⟨h1, sv, h2, h3⟩ | ⟨j, sv, rfl, h2, h3⟩
        · cases v with
          | cst k => exact (h1 k rfl).elim
          | val _ => exact ⟨sv, h2, h3.le le1⟩
          | box _ => exact ⟨sv, h2, h3.le le1⟩
          | lptr _ _ => exact ⟨sv, h2, h3.le le1⟩
        · exact ⟨sv, h3, by rw [Nat.zero_add]; exact h2⟩
    · obtain ⟨sv, h1, h2⟩ := hC.T i a h
      exact ⟨sv, h1, h2.le le1⟩
  obtain ⟨ex, s', h1, st2, c2, g2, le2, h2⟩ := ih e1 g1
  obtain ⟨sh, x, y, h3, h4, h5⟩ := absX_inv h2 e2
  obtain ⟨c3, g3, le3⟩ := leave_ok hcs hic g sb g2 (le1.trans le2) (fun t i hp => posOf_ok hC hp) h3 h4
  exact ⟨ex, s', h1, y, c3, g3, le3, h5⟩
end
end Go.Ideal
set_option linter.unusedVariables false
set_option linter.unusedSimpArgs false
set_option linter.unusedSectionVars false
namespace Go.Ideal
section
variable {prog : Nat → Option SFn} {opn : Nat → Bool} {cs : Nat → Option Ct} {ety : Nat → Option Ty} {icall : ∀ R : Type, Nat → List AV → AHp → (AV → AHp → Option R) → Option R}
variable (hcs : ∀ f ct, cs f = some ct → CtOk prog opn f ct) (hic : ∀ R, ICallOk prog opn (icall R))
include hcs hic
theorem loop_ok {head : Shp} {exits : List (Ex × Shp)} {cd : ACode} (ih : CodeOk prog opn cs ety icall cd) : CodeOk prog opn cs ety icall (.loop head exits cd) := by
  intro Rr T st k r e R TI c s g
  simp only [aC] at e
  obtain ⟨x, e1, e⟩ := bind_some'.1 e
  obtain ⟨v, e2, e3⟩ := bind_some'.1 e
  obtain ⟨TJ, hC⟩ := keepsOf_ok g.gf head 0
  generalize hks : keepsOf T st.fr head 0 = ks at *
  generalize hbh : (fun t => match posOf ks.2.2 t with | some i => some (ASV.cst i) | none => aget T st.fr t) = bh at *
  have bh_eq : ∀ t, bh t = match posOf ks.2.2 t with | some i => some (ASV.cst i) | none => aget T st.fr t := fun t => by rw [← hbh]
  let fk : ASV → Option SV → Prop := fun a v => match a with
    | .cst i => ∃ sv, v = some sv ∧ TJ[i]? = some sv
    | a => ∃ sv, v = some sv ∧ SVa c a sv
  have fk0 : ∀ t a, bh t = some a → fk a (s.1.get t) := by
    intro t a ha
    rw [bh_eq] at ha
    cases hp : posOf ks.2.2 t with
    | some i =>
      rw [hp] at ha; simp at ha; subst ha
      obtain ⟨sv, h1, h2⟩ := posOf_ok hC hp
      exact ⟨sv, h2, h1⟩
    | none =>
      rw [hp] at ha
      obtain ⟨sv, h1, h2⟩ := aget_ok g.gf ha
      cases a with
      | cst i => cases sv <;> simp [SVa] at h2
      | val _ => exact ⟨sv, h1, h2⟩
      | box _ => exact ⟨sv, h1, h2⟩
      | lptr _ _ => exact ⟨sv, h1, h2⟩
  have fkFR : ∀ {c1}, Le c c1 → ∀ a v, fk a v → FR TJ c1 (some a) v := by
    intro c1 le a v h
    cases a with
    | cst i => exact h
    | val _ => obtain ⟨sv, h1, h2⟩ := h; exact ⟨sv, h1, h2.le le⟩
    | box _ => obtain ⟨sv, h1, h2⟩ := h; exact ⟨sv, h1, h2.le le⟩
    | lptr _ _ => obtain ⟨sv, h1, h2⟩ := h; exact ⟨sv, h1, h2.le le⟩
  have bobj : ∀ {t B}, bh t = some (.val (.ptr B (.st 0))) → c.H[B]? ≠ some .gone → ∃ w cs, c.H[B]? = some (.obj w cs) := by
    intro t B h hg
    rw [bh_eq] at h
    cases hp : posOf ks.2.2 t with
    | some i => rw [hp] at h; cases h
    | none =>
      rw [hp] at h
      obtain ⟨sv, h1, h2⟩ := aget_ok g.gf h
      cases sv <;> simp only [SVa, Va] at h2
      rcases h2.2 with h | ⟨wr, cs', b, h, _⟩
      · exact (hg h).elim
      · exact ⟨_, _, h⟩
  -- the loop begins
  obtain ⟨d, a1, a2, ok, hbx⟩ := abs_eq e1
  obtain ⟨L, O, f, hu⟩ := absS_ok (fk := fk) (Z := Z3of c x.2) g.gh.blk (fun b hb => .inl hb) g.H g.gf (fun t _ => fk0 t) (.inr fk0) a1 (fun B hB b hm => .inr ⟨B, hB, hm⟩)
  rw [← g.H] at ok
  obtain ⟨sb, rs⟩ := enter g.gh hu ok _ rfl
  generalize hR1 : ({ p := R.p, N := c.h.length, O0 := fun b => ∃ B x0, c.H[B]? = some x0 ∧ B ∈ x.2.own ++ x.2.frz ++ x.2.obj ∧ x0.wr = true ∧ c.m B = some b, h0 := c.h, Z0 := Z3of c x.2 } : Run) = R1 at *
  have hobjs : O.map Prod.fst = objsOf bh head := SF_objs f
  -- a state of the head's shape
  have mk : ∀ {y : ASt} {si : (rowTy head.hs).den} {s2 : St} {Z3 : Nat → Prop} {d : DL head.hs} {L : Lo} {O : Oo}, Rsh R1 c (goneIf (x.2.own ++ x.2.frz) true 0 c.H) Z3 s2.2 L O → SF c.p Z3 s2.2 s2.1 bh fk head d L O → si = pack d →
      (∀ t, (∀ q ∈ head, q.1 ≠ t) → ∀ cs, s2.1.get t ≠ some (.box cs)) → inv bh head si (goneIf (x.2.own ++ x.2.frz) true 0 st.H) = some y → ∃ c1, G R1 ks.2.1 TJ c1 y s2 ∧ Le c c1 := by
    intro y si s2 Z3 d L O rs f hsi hbx e
    subst hsi
    simp only [inv, unpack_pack] at e
    rw [← g.H] at e
    obtain ⟨c1, hc1, g1, le1, h1⟩ := reshape rs f e
    refine ⟨c1, ⟨g1, by rw [hc1], by rw [hc1], ⟨fun t => ?_, hC.len, fun i a h => ?_, hC.tl⟩⟩, le1⟩
    · rcases h1 TJ (fkFR le1) t with h | ⟨h, h'⟩
      · exact h
      · rw [h]; exact hbx t h'
    · obtain ⟨sv, h2, h3⟩ := hC.T i a h
      exact ⟨sv, h2, h3.le le1⟩
  have main : ∀ (n : Nat) (si : (rowTy head.hs).den) (s2 : St), (∀ y, inv bh head si (goneIf (x.2.own ++ x.2.frz) true 0 st.H) = some y → ∃ c1, G R1 ks.2.1 TJ c1 y s2 ∧ Le c c1) →
      iterN (fun s => (inv bh head s (goneIf (x.2.own ++ x.2.frz) true 0 st.H)).bind fun st1 =>
        aC cs opn ety icall (fun _ _ => iterL) cd ks.2.1 st1 (R := (rowTy head.hs).den ⊕ XT exits) fun ex st => match ex with
          | .normal => (abs ks.2.1 (posOf ks.2.2) bh true st head).bind fun y => some (.inl y.1)
          | ex => (absX ks.2.1 (posOf ks.2.2) (baseOf T st.fr) ex st exits).bind fun y => some (.inr y)) n si = some v →
      True := fun _ _ _ _ _ => trivial
  have main : ∀ (n : Nat) (si : (rowTy head.hs).den) (s2 : St), (∀ y, inv bh head si (goneIf (x.2.own ++ x.2.frz) true 0 st.H) = some y → ∃ c1, G R1 ks.2.1 TJ c1 y s2 ∧ Le c c1) →
      ∀ F, F = (fun s => (inv bh head s (goneIf (x.2.own ++ x.2.frz) true 0 st.H)).bind fun st1 =>
        aC cs opn ety icall (fun _ _ => iterL) cd ks.2.1 st1 (R := (rowTy head.hs).den ⊕ XT exits) fun ex st' => match ex with
          | .normal => (abs ks.2.1 (posOf ks.2.2) bh true st' head).bind fun y => some (.inl y.1)
          | ex => (absX ks.2.1 (posOf ks.2.2) (baseOf T st.fr) ex st' exits).bind fun y => some (.inr y)) → iterN F n si = some v →
      ∃ ex s', loopL (evL prog opn cd.erase) s2 = some (ex, s') ∧ ∃ st' c', G R T TI c' st' s' ∧ Le c c' ∧ k ex st' = some r := by
    intro n
    induction n with
    | zero => intro si s2 _ F _ h; simp [iterN] at h
    | succ n ihn =>
      intro si s2 hs2 F hF h
      simp only [iterN] at h
      obtain ⟨res, h1, h2⟩ := bind_some'.1 h
      rw [hF] at h1
      obtain ⟨y, h3, h4⟩ := bind_some'.1 h1
      obtain ⟨c1, g1, le1⟩ := hs2 y h3
      obtain ⟨ex, s3, h5, st3, c3, g3, le3, h6⟩ := ih h4 g1
      rw [loopL_eq, h5]
      have le03 := le1.trans le3
      cases ex with
      | normal =>
        simp only at h6
        obtain ⟨y2, h7, h8⟩ := bind_some'.1 h6
        injection h8 with h8; subst h8
        simp only at h2
        simp only [Option.bind_some]
        refine ihn y2.1 s3 (fun z hz => ?_) F hF h2
        obtain ⟨d2, b1, b2, ok2, hbx2⟩ := abs_eq h7
        have hk : ∀ t, (∃ i, st3.fr.get t = some (.cst i) ∧ posOf ks.2.2 t = some i) → ∀ a, bh t = some a → fk a (s3.1.get t) := by
          rintro t ⟨i, q1, q2⟩ a ha
          rw [bh_eq, q2] at ha; simp at ha; subst ha
          have := g3.gf.fr t
          rw [q1] at this
          exact this
        obtain ⟨L2, O2, f2, hu2⟩ := absS_ok (fk := fk) (Z := Z3of c3 y2.2) g3.gh.blk (fun b hb => .inl hb) g3.H g3.gf hk (.inl rfl) b1 (fun B hB b hm => .inr ⟨B, hB, hm⟩)
        rw [← g3.H] at ok2
        have hobj2 : ∀ q ∈ O2, ∃ w cs, c.H[q.1]? = some (.obj w cs) := fun q hq => by
          obtain ⟨t, ht⟩ := SF_base f2 q hq
          refine bobj ht fun hg => ?_
          have := le03.gone hg
          obtain ⟨_, cs', h3⟩ := hu2.o q hq
          rw [this] at h3; cases h3
        have rs2 := goOn g.gh sb g3.gh le03 hu2 ok2 hobj2 (gs := x.2.own ++ x.2.frz) (fun i h1 h2 => by
          rw [SF_objs f2, ← hobjs, hu.obj] at h2
          simp only [List.mem_append, not_or] at h1 ⊢
          exact ⟨h1, h2⟩)
        rw [le03.p] at f2
        rw [g3.h] at rs2 f2
        exact mk rs2 f2 b2 (fun t ht => boxes_ok g3.gf hbx2 ht) hz
      | exit i =>
        simp only at h6
        obtain ⟨v', h7, h8⟩ := bind_some'.1 h6
        injection h8 with h8; subst h8
        simp only [Option.some.injEq] at h2; subst h2
        obtain ⟨sh, xx, yy, q1, q2, q3⟩ := absX_inv h7 e3
        obtain ⟨c4, g4, le4⟩ := leave_ok hcs hic g sb g3 le03 (fun t i hp => posOf_ok hC hp) q1 q2
        exact ⟨.exit i, s3, rfl, yy, c4, g4, le4, q3⟩
      | ret =>
        simp only at h6
        obtain ⟨v', h7, h8⟩ := bind_some'.1 h6
        injection h8 with h8; subst h8
        simp only [Option.some.injEq] at h2; subst h2
        obtain ⟨sh, xx, yy, q1, q2, q3⟩ := absX_inv h7 e3
        obtain ⟨c4, g4, le4⟩ := leave_ok hcs hic g sb g3 le03 (fun t i hp => posOf_ok hC hp) q1 q2
        exact ⟨.ret, s3, rfl, yy, c4, g4, le4, q3⟩
  obtain ⟨n, hn⟩ := iterL_some.1 e2
  rw [g.h] at rs f
  exact main n x.1 s (fun y hy => mk rs f a2 (fun t ht => boxes_ok g.gf hbx ht) hy) _ rfl hn
/-- All code. -/
theorem aC_ok (code : ACode) : CodeOk prog opn cs ety icall code := by
  induction code with
  | skip =>
    intro Rr T st k r e R TI c s g
    simp only [aC] at e
    exact ⟨.normal, s, rfl, st, c, g, Le.refl c, e⟩
  | reg its live =>
    intro Rr T st k r e R TI c s g
    simp only [aC] at e
    obtain ⟨s1, h1, st1, c1, g1, le1, e1⟩ := aIts_ok hcs (hic Rr) g e
    exact ⟨.normal, (s1.1.keep live, s1.2), by simp only [evL, ACode.erase, evC, h1, Option.bind_some], { st1 with fr := st1.fr.keep live }, c1, ⟨g1.gh, g1.H, g1.h, gkeep_ok g1.gf live⟩, le1, e1⟩
  | drw q0 bs live =>
    intro Rr T st k r e R TI c s g
    simp only [aC] at e
    split at e
    · rename_i hc
      simp only [Bool.and_eq_true] at hc
      obtain ⟨s1, h1, st1, c1, g1, le1, e1⟩ := aIts_ok hcs (hic Rr) g e
      refine ⟨.normal, (s1.1.keep live, s1.2), ?_, { st1 with fr := st1.fr.keep live }, c1, ⟨g1.gh, g1.H, g1.h, gkeep_ok g1.gf live⟩, le1, e1⟩
      have df : ∀ {its : List Item}, adstFree T st.fr its = true → dstFree s.1 its = true := by
        intro its h
        unfold adstFree at h
        unfold dstFree
        rw [List.all_eq_true] at h ⊢
        intro it hit
        have := h it hit
        cases hd : it.dst with
        | none => rfl
        | some t => rw [hd] at this; exact afree_ok g.gf this
      have h2 := df hc.2
      simp only [flatD, dstFree, List.all_append, Bool.and_eq_true, List.all_flatMap] at h2
      simp only [flatD, evIts_app] at h1
      have : (dstFree s.1 q0 && bs.all fun b => dstFree s.1 (b.w :: b.qs)) = true := by
        simp only [dstFree, Bool.and_eq_true]; exact h2
      simp only [evL, ACode.erase, evC, evDs]
      rw [if_pos this]
      cases hq : evIts (callL prog opn) opn q0 s with
      | none => rw [hq] at h1; cases h1
      | some s0 =>
        rw [hq] at h1
        simp only [Option.bind_some] at h1 ⊢
        rw [evBs_flat hc.1, h1]; rfl
    · cases e
  | seq a b iha ihb =>
    intro Rr T st k r e R TI c s g
    simp only [aC] at e
    obtain ⟨ex, s1, h1, st1, c1, g1, le1, e1⟩ := iha e g
    cases ex with
    | normal =>
      simp only at e1
      obtain ⟨ex2, s2, h2, st2, c2, g2, le2, e2⟩ := ihb e1 g1
      refine ⟨ex2, s2, ?_, st2, c2, g2, le1.trans le2, e2⟩
      simp only [evL, ACode.erase, evC] at h1 h2 ⊢
      rw [h1]; exact h2
    | exit i =>
      refine ⟨.exit i, s1, ?_, st1, c1, g1, le1, e1⟩
      simp only [evL, ACode.erase, evC] at h1 ⊢
      rw [h1]; rfl
    | ret =>
      refine ⟨.ret, s1, ?_, st1, c1, g1, le1, e1⟩
      simp only [evL, ACode.erase, evC] at h1 ⊢
      rw [h1]; rfl
  | cond cx a b iha ihb =>
    intro Rr T st k r e R TI c s g
    simp only [aC] at e
    split at e
    · rename_i b' hb
      obtain ⟨iv, h1, h2⟩ := av_ok g.gf hb
      simp only [Va] at h2; subst h2
      cases b' with
      | true =>
        simp only [cond_true] at e
        obtain ⟨ex, s1, h3, rest⟩ := iha e g
        refine ⟨ex, s1, ?_, rest⟩
        simp only [evL, ACode.erase, evC, h1, Option.bind_some] at h3 ⊢
        exact h3
      | false =>
        simp only [cond_false] at e
        obtain ⟨ex, s1, h3, rest⟩ := ihb e g
        refine ⟨ex, s1, ?_, rest⟩
        simp only [evL, ACode.erase, evC, h1, Option.bind_some] at h3 ⊢
        exact h3
    · cases e
  | block id a iha =>
    intro Rr T st k r e R TI c s g
    simp only [aC] at e
    obtain ⟨ex, s1, h1, st1, c1, g1, le1, e1⟩ := iha e g
    simp only [evL] at h1
    split at e1
    · rename_i hx
      refine ⟨.normal, s1, ?_, st1, c1, g1, le1, e1⟩
      simp only [evL, ACode.erase, evC, h1, Option.bind_some]
      rw [if_pos hx]
    · rename_i hx
      refine ⟨ex, s1, ?_, st1, c1, g1, le1, e1⟩
      simp only [evL, ACode.erase, evC, h1, Option.bind_some]
      rw [if_neg hx]
  | loop head exits a iha => exact loop_ok hcs hic iha
  | exit i =>
    intro Rr T st k r e R TI c s g
    simp only [aC] at e
    exact ⟨.exit i, s, rfl, st, c, g, Le.refl c, e⟩
  | ret =>
    intro Rr T st k r e R TI c s g
    simp only [aC] at e
    exact ⟨.ret, s, rfl, st, c, g, Le.refl c, e⟩
  | bad =>
    intro Rr T st k r e R TI c s g
    simp only [aC] at e; cases e
  | join raw exits a iha => exact join_ok hcs hic iha
end
end Go.Ideal
set_option linter.unusedVariables false
set_option linter.unusedSimpArgs false
set_option linter.unusedSectionVars false
namespace Go.Ideal
/-- A function with its shapes. -/
structure AFn where
  np : Nat
  res : List RV
  code : ACode
  ety : List (Nat × Ty)
def AFn.fn (a : AFn) : SFn := ⟨a.np, a.res, a.code.erase⟩
def etyOf (l : List (Nat × Ty)) (t : Nat) : Option Ty := (l.find? (·.1 == t)).map (·.2)
def ainit (i : Nat) : List AV → AFr
  | [] => []
  | v :: vs => (i, .val v) :: ainit (i + 1) vs
def resA {R : Type} (st : ASt) : List RV → (List AV → Option R) → Option R
  | [], k => k []
  | .tmp t :: r, k => (av [] st.fr (.t t)).bind fun a => resA st r fun as => k (a :: as)
  | .cell t n :: r, k => (ax [] st.fr (.t t)).bind fun p => match n with
    | none => acells [] st p 1 fun cs => match cs with
      | [v] => if v.one then resA st r fun as => k (v :: as) else none
      | _ => none
    | some n => acells [] st p n fun cs => resA st r fun as => k (.agg cs :: as)
def atupled : List AV → AV
  | [a] => a
  | l => .tup l
section
variable (cs : Nat → Option Ct) (opn : Nat → Bool) (lp : ∀ S X : Type, (S → Option (S ⊕ X)) → S → Option X)
/-- A function's body is run over a heap. -/
def aBody (icall : ∀ R : Type, Nat → List AV → AHp → (AV → AHp → Option R) → Option R) {R : Type} (af : AFn) (args : List AV) (H : AHp) (k : List AV → ASt → Option R) : Option R :=
  if args.length ≤ af.np then aC cs opn (etyOf af.ety) icall lp af.code [] ⟨ainit 0 args, H⟩ fun ex st => match ex with
    | .exit _ => none
    | _ => resA st af.res fun as => k as st
  else none
/-- Open functions are run where they are called. -/
def inl (fns : Nat → Option AFn) : Nat → ∀ R : Type, Nat → List AV → AHp → (AV → AHp → Option R) → Option R
  | 0, _, _, _, _, _ => none
  | n + 1, R, f, args, H, k => (fns f).bind fun af => aBody cs opn lp (inl fns n) af args H fun as st => k (atupled as) st.H
/-- What a function gives. -/
def runF (fns : Nat → Option AFn) (n : Nat) (af : AFn) (args res : List VTy) (fresh : Bool) (x : (rowTy (args.map (·.t))).den) : Option (rowTy (res.map (·.t))).den :=
  (ofVs false true args x).bind fun as => aBody cs opn lp (inl cs opn lp fns n) af as [] fun rs st => if fresh && lnVs st.H rs then none else toVs st.H res rs
end
section
variable {prog : Nat → Option SFn} {opn : Nat → Bool} {cs : Nat → Option Ct} {fns : Nat → Option AFn}
theorem resA_ok {Rr : Type} {R : Run} {TI : List SV} {c : Cf} {st : ASt} {s : St} (g : G R [] TI c st s) : ∀ {rs : List RV} {k : List AV → Option Rr} {r : Rr}, resA st rs k = some r → ∃ as ivs, k as = some r ∧ mapO (results1 s) rs = some ivs ∧ Vas c as ivs
  | [], k, r, e => ⟨[], [], e, rfl, rfl⟩
  | .tmp t :: rs, k, r, e => by
    simp only [resA] at e
    obtain ⟨a, e1, e⟩ := bind_some'.1 e
    obtain ⟨iv, h1, h2⟩ := av_ok g.gf e1
    obtain ⟨as, ivs, h3, h4, h5⟩ := resA_ok g e
    exact ⟨a :: as, iv :: ivs, h3, by simp [mapO, results1, h1, h4], ⟨iv, ivs, rfl, h2, h5⟩⟩
  | .cell t n :: rs, k, r, e => by
    simp only [resA] at e
    obtain ⟨p, e1, e⟩ := bind_some'.1 e
    obtain ⟨sv, h1, h2⟩ := ax_ok g.gf e1
    cases n with
    | none =>
      simp only at e
      obtain ⟨out, ivs, h3, h4, h5⟩ := acells_ok g h2 e
      split at h3
      · split at h3
        · rename_i v hv
          rw [Cas.single] at h5
          obtain ⟨iv, rfl, _, h6⟩ := (cell_val hv).1 h5
          obtain ⟨as, ivs', h7, h8, h9⟩ := resA_ok g h3
          exact ⟨v :: as, iv :: ivs', h7, by simp [mapO, results1, h1, h4, h8], ⟨iv, ivs', rfl, h6, h9⟩⟩
        · cases h3
      · cases h3
    | some n =>
      simp only at e
      obtain ⟨out, ivs, h3, h4, h5⟩ := acells_ok g h2 e
      obtain ⟨as, ivs', h7, h8, h9⟩ := resA_ok g h3
      exact ⟨.agg out :: as, .agg ivs :: ivs', h7, by simp [mapO, results1, h1, h4, h8], ⟨.agg ivs, ivs', rfl, by simp only [Va]; exact ⟨_, rfl, h5⟩, h9⟩⟩
theorem ainit_ok {c : Cf} : ∀ {as : List AV} {ivs : List IV} {i : Nat}, Vas c as ivs → ∀ t, FR [] c ((ainit i as).get t) ((initFr i ivs).get t)
  | [], ivs, i, h, t => by simp only [Vas] at h; subst h; simp [ainit, initFr, AFr.get, Fr.get, FR]
  | a :: as, ivs, i, h, t => by
    simp only [Vas] at h
    obtain ⟨u, v, rfl, h1, h2⟩ := h
    simp only [ainit, initFr, AFr.get, Fr.get]
    split
    · exact ⟨_, rfl, h1⟩
    · exact ainit_ok h2 t
theorem aBody_ok (hcs : ∀ f ct, cs f = some ct → CtOk prog opn f ct) {icall : ∀ R : Type, Nat → List AV → AHp → (AV → AHp → Option R) → Option R} (hic : ∀ R, ICallOk prog opn (icall R)) {Rr : Type} {af : AFn} {f : Nat} (hf : prog f = some af.fn) {args : List AV} {H : AHp} {k : List AV → ASt → Option Rr} {r : Rr}
    (e : aBody cs opn (fun _ _ => iterL) icall af args H k = some r) {R : Run} {c : Cf} {ivs : List IV} (g : GH R c) (hH : c.H = H) (h : Vas c args ivs) :
    ∃ (rs : List IV) (s' : St), callL prog opn f ivs c.h = some (tupled rs, s'.2) ∧ ∃ as st' c' , GH R c' ∧ c'.h = s'.2 ∧ c'.H = st'.H ∧ Le c c' ∧ Vas c' as rs ∧ k as st' = some r := by
  unfold aBody at e
  split at e
  · rename_i hl
    have g0 : G R [] [] c ⟨ainit 0 args, H⟩ (initFr 0 ivs, c.h) := ⟨g, hH, rfl, ⟨ainit_ok h, rfl, by simp, by simp⟩⟩
    obtain ⟨ex, s', h1, st', c', g', le, h2⟩ := aC_ok hcs hic af.code e g0
    have hst : start af.fn ivs = some (initFr 0 ivs) := by
      unfold start; rw [if_pos]; rw [h.len]; exact hl
    have fin : ∀ (hx : ∀ i, ex ≠ .exit i) (h2 : resA st' af.res (fun as => k as st') = some r), ∃ (rs : List IV) (s' : St), callL prog opn f ivs c.h = some (tupled rs, s'.2) ∧ ∃ as st' c' , GH R c' ∧ c'.h = s'.2 ∧ c'.H = st'.H ∧ Le c c' ∧ Vas c' as rs ∧ k as st' = some r := by
      intro hx h2
      obtain ⟨as, rs, h3, h4, h5⟩ := resA_ok g' h2
      refine ⟨rs, s', ?_, as, st', c', g'.gh, g'.h, g'.H, le, h5, h3⟩
      rw [callL_eq, hf]
      simp only [Option.bind_some]
      rw [hst]
      simp only [Option.bind_some]
      rw [show af.fn.body = af.code.erase from rfl, h1]
      simp only [Option.bind_some, finish]
      cases ex with
      | exit i => exact (hx i rfl).elim
      | normal => exact (congrArg (fun z => Option.bind z _) h4).trans rfl
      | ret => exact (congrArg (fun z => Option.bind z _) h4).trans rfl
    cases ex with
    | exit i => cases h2
    | normal => exact fin (by simp) h2
    | ret => exact fin (by simp) h2
  · cases e
theorem tupled_va {c : Cf} {as : List AV} {rs : List IV} (h : Vas c as rs) : Va c (atupled as) (tupled rs) := by
  have hl := h.len
  unfold atupled
  split
  · simp only [Vas] at h
    obtain ⟨u, v, rfl, h1, rfl⟩ := h
    exact h1
  · rename_i hno
    refine ⟨rs, ?_, h⟩
    unfold tupled
    split
    · obtain ⟨a, rfl⟩ := List.length_eq_one_iff.1 hl.symm
      exact (hno a rfl).elim
    · rfl
theorem inl_ok (hcs : ∀ f ct, cs f = some ct → CtOk prog opn f ct) (hfns : ∀ f af, fns f = some af → prog f = some af.fn) : ∀ (n : Nat) (R : Type), ICallOk prog opn (inl cs opn (fun _ _ => iterL) fns n R)
  | 0, R => by intro f args H k r e; simp [inl] at e
  | n + 1, Rr => by
    intro f args H k r e R c ivs g hH h
    simp only [inl] at e
    obtain ⟨af, e1, e⟩ := bind_some'.1 e
    obtain ⟨rs, s', h1, as, st', c', g', hh, hH', le, hv, hk⟩ := aBody_ok hcs (inl_ok hcs hfns n) (hfns f af e1) e g hH h
    exact ⟨tupled rs, s'.2, h1, atupled as, c', g', hh, le, tupled_va hv, by rw [hH']; exact hk⟩
def depOk (vs : List VTy) : Bool := vs.all fun v => decide (v.t.dep < 18)
theorem fz_tup {h : Heap} {d : Nat} {cs cs' : List IV} (e : mapO (fz h d) cs = some cs') : fz h (d + 1) (.tup cs) = some (.tup cs') := by
  unfold fz
  split
  · simp [e]
  · rename_i ho
    have hno : ∀ v ∈ cs, v.own = false := by
      intro v hv
      simp only [IV.own, IV.ownL_eq] at ho
      rw [Bool.not_eq_true, List.any_eq_false] at ho
      simpa using ho v hv
    have : mapO (fz h d) cs = some cs := by
      clear e ho
      induction cs with
      | nil => rfl
      | cons a l ih => simp [mapO, fz_not (hno a (by simp)), ih (fun v hv => hno v (by simp [hv]))]
    rw [this] at e; injection e with e; subst e; rfl
/-- THE CONTRACT of a function: what the typed evaluator gives. -/
theorem runF_ok (hcs : ∀ f ct, cs f = some ct → CtOk prog opn f ct) (hfns : ∀ f af, fns f = some af → prog f = some af.fn) {f : Nat} {af : AFn} (hf : prog f = some af.fn) {args res : List VTy} {fresh : Bool} (hd : (depOk args && depOk res) = true)
    {n : Nat} {F : (rowTy (args.map (·.t))).den → Option (rowTy (res.map (·.t))).den} (hF : ∀ x r, F x = some r → runF cs opn (fun _ _ => iterL) fns n af args res fresh x = some r) : CtOk prog opn f ⟨args, res, fresh, F⟩ := by
  simp only [Bool.and_eq_true, depOk, List.all_eq_true, decide_eq_true_eq] at hd
  refine ⟨fun v hv => Nat.lt_succ_of_lt (hd.1 v hv), fun p x ivs r hx hr => ?_⟩
  have e := hF x r hr
  unfold runF at e
  obtain ⟨as, e1, e⟩ := bind_some'.1 e
  let c : Cf := ⟨p, [], fun _ => none, Zn, []⟩
  let R : Run := ⟨p, 0, fun _ => False, [], Zn⟩
  have g : GH R c := by
    refine ⟨rfl, ?_, ?_, ?_, ?_, ⟨Nat.le_refl _, fun b hb => absurd hb (Nat.not_lt_zero _)⟩, fun b hb => hb.elim, fun b hb => hb⟩
    · intro B x h; simp [c] at h
    · intro B B' x x' b h; simp [c] at h
    · intro B x b h; simp [c] at h
    · intro B x b h; simp [c] at h
  have hv : Vas c as ivs := ofVs_ok (c := c) e1 hx
  obtain ⟨rs, s', h1, as', st', c', g', hh, hH, le, hv', hk⟩ := aBody_ok hcs (inl_ok hcs hfns n) hf e g rfl hv
  split at hk
  · cases hk
  · rename_i hfr
    rw [← hH] at hk hfr
    have hln : lnVs c'.H as' = true → (!fresh) = true := by
      intro h; rw [h, Bool.and_true] at hfr; simpa using hfr
    obtain ⟨q18, k1, k2, _⟩ := toVs_fz g'.blk (d := 18) hk hv' (fun v hv => hd.2 v hv)
    obtain ⟨q19, k3, k4, _⟩ := toVs_fz g'.blk (d := 19) hk hv' (fun v hv => Nat.lt_succ_of_lt (hd.2 v hv))
    have hp : c'.p = p := le.p
    rw [hp] at k2 k4
    rw [hh] at k1 k3
    by_cases hone : ∃ v, rs = [v]
    · obtain ⟨v, rfl⟩ := hone
      obtain ⟨w, h2, rfl⟩ := mapO_single k3
      exact ⟨_, _, w, h1, h2, [w], k4.flags hln id, rfl⟩
    · have ht : tupled rs = .tup rs := by
        unfold tupled; split
        · exact (hone ⟨_, rfl⟩).elim
        · rfl
      have hl : q18.length = rs.length := by
        have : ∀ {l : List IV} {m : List IV}, mapO (fz s'.2 (18 + 1)) l = some m → m.length = l.length := by
          intro l
          induction l with
          | nil => intro m h; simp [mapO] at h; subst h; rfl
          | cons a l ih =>
            intro m h
            simp only [mapO] at h
            obtain ⟨b, _, h⟩ := bind_some'.1 h
            obtain ⟨bs, h2, h⟩ := bind_some'.1 h
            simp at h; subst h
            simp [ih h2]
        exact this k1
      have ht' : tupled q18 = .tup q18 := by
        unfold tupled; split
        · rename_i v
          obtain ⟨a, ha⟩ := List.length_eq_one_iff.1 hl.symm
          exact (hone ⟨a, ha⟩).elim
        · rfl
      rw [ht] at h1
      exact ⟨_, _, .tup q18, h1, fz_tup k1, q18, k2.flags hln id, ht'.symm⟩
end
end Go.Ideal
set_option linter.unusedVariables false
namespace Go.Ideal
def tabOf {α : Type} (l : List (Nat × α)) (f : Nat) : Option α := match l with
  | [] => none
  | (g, c) :: r => if Nat.beq f g = true then some c else tabOf r f
def TabOk (prog : Nat → Option SFn) (opn : Nat → Bool) : List (Nat × Ct) → Prop
  | [] => True
  | (f, c) :: r => CtOk prog opn f c ∧ TabOk prog opn r
theorem tab_ok {prog : Nat → Option SFn} {opn : Nat → Bool} : ∀ {l : List (Nat × Ct)}, TabOk prog opn l → ∀ f ct, tabOf l f = some ct → CtOk prog opn f ct
  | [], _, f, ct, h => by simp [tabOf] at h
  | (g, c) :: r, hl, f, ct, h => by
    simp only [tabOf] at h
    split at h
    · rename_i e; simp at h; subst h
      rw [Nat.eq_of_beq_eq_true e]; exact hl.1
    · exact tab_ok hl.2 f ct h
def FnsOk (prog : Nat → Option SFn) : List (Nat × AFn) → Prop
  | [] => True
  | (f, a) :: r => prog f = some a.fn ∧ FnsOk prog r
theorem fns_ok {prog : Nat → Option SFn} : ∀ {l : List (Nat × AFn)}, FnsOk prog l → ∀ f af, tabOf l f = some af → prog f = some af.fn
  | [], _, f, af, h => by simp [tabOf] at h
  | (g, c) :: r, hl, f, af, h => by
    simp only [tabOf] at h
    split at h
    · rename_i e; simp at h; subst h
      rw [Nat.eq_of_beq_eq_true e]; exact hl.1
    · exact fns_ok hl.2 f af h
theorem evalCt {prog : Nat → Option SFn} {opn : Nat → Bool} {f : Nat} (n : Nat) (h : (match evCall prog opn n f [] [] with | some (.bool true, _) => true | _ => false) = true) :
    CtOk prog opn f ⟨[], [⟨false, .bool⟩], true, fun _ => some true⟩ := by
  refine ⟨by simp, fun p x ivs r hx hr => ?_⟩
  simp only [TVs] at hx; subst hx
  injection hr with hr; subst hr
  split at h
  · rename_i hh e
    exact ⟨.bool true, hh, .bool true, (callL_some prog opn).2 ⟨n, e⟩, fz_not rfl, [.bool true], ⟨.bool true, [], rfl, (by simp only [TV]; rw [if_neg (by simp)]; exact rfl), rfl⟩, rfl⟩
  · cases h
end Go.Ideal
set_option linter.unusedVariables false
set_option linter.unusedSimpArgs false
namespace Go.Ideal
section
variable (P : Program)
def fieldsP (f : TypeId → Option (List Ty)) : List Field → Option (List Ty)
  | [] => some []
  | fd :: r => (f fd.type).bind fun a => (fieldsP f r).bind fun b => some (a ++ b)
/-- The cells of a type. -/
def cellsP : Nat → TypeId → Option (List Ty)
  | 0, _ => none
  | m + 1, t => match P.underlying t with
    | some .bool => some [.bool]
    | some (.int k) => some [.int k]
    | some .string => some [.str]
    | some (.slice e) => (cellsP m e).bind fun l => some [.lst (rowTy l)]
    | some (.struct fs) => fieldsP (cellsP m) fs.toList
    | some (.array n e) => (cellsP m e).bind fun l => some [.arr n (rowTy l)]
    | _ => none
end
/-- What a datum of an argument keeps to. -/
def Wf : (t : Ty) → t.den → Prop
  | .int k, n => k.min ≤ n ∧ n ≤ k.max
  | .bool, _ => True
  | .str, s => s.length ≤ maxLen
  | .unit, _ => True
  | .lst t, l => l.length ≤ maxLen ∧ ∀ x ∈ l, Wf t x
  | .pair a b, x => Wf a x.1 ∧ Wf b x.2
  | .arr n t, l => l.length = n ∧ ∀ x ∈ l, Wf t x
  | .ref t, x => False
def CellsR (p : Bool) (ln : Bool) : (l : List Ty) → DL l → List IV → Prop
  | [], _, cs => cs = []
  | t :: r, x, cs => ∃ u v, cs = u ++ v ∧ (TR p Zn [] ln t false x.1 u ∧ Wf t x.1) ∧ CellsR p ln r x.2 v
theorem CellsR.app {p ln : Bool} : ∀ {a b : List Ty} {x : DL a} {y : DL b} {u v : List IV}, CellsR p ln a x u → CellsR p ln b y v → CellsR p ln (a ++ b) (DL.app x y) (u ++ v)
  | [], b, x, y, u, v, h, h' => by simp only [CellsR] at h; subst h; exact h'
  | t :: a, b, x, y, u, v, h, h' => by
    simp only [CellsR] at h
    obtain ⟨u1, u2, rfl, h1, h2⟩ := h
    exact ⟨u1, u2 ++ v, by simp, h1, CellsR.app h2 h'⟩
theorem CellsR.row {p ln : Bool} : ∀ {l : List Ty} {x : DL l} {u : List IV}, CellsR p ln l x u → TR p Zn [] ln (rowTy l) false (pack x) u ∧ Wf (rowTy l) (pack x)
  | [], x, u, h => by simp only [CellsR] at h; subst h; exact ⟨rfl, trivial⟩
  | [t], x, u, h => by
    simp only [CellsR] at h
    obtain ⟨u1, u2, rfl, h1, rfl⟩ := h
    simpa [rowTy, pack] using h1
  | t :: s :: r, x, u, h => by
    unfold CellsR at h
    obtain ⟨u1, u2, rfl, h1, h2⟩ := h
    have ih := CellsR.row h2
    exact ⟨⟨u1, u2, rfl, h1.1, ih.1⟩, h1.2, ih.2⟩
theorem enc_fields {P : Program} {m : Nat} {p ln : Bool} (ih : ∀ (t : TypeId) (cs : List IV) (l : List Ty), Enc P m t cs → cellsP P m t = some l → ∃ x, CellsR p ln l x cs) :
    ∀ (fs : List Field) (cs : List IV) (l : List Ty), EncF (Enc P m) fs cs → fieldsP (cellsP P m) fs = some l → ∃ x, CellsR p ln l x cs
  | [], cs, l, h, e => by simp only [EncF] at h; subst h; simp only [fieldsP, Option.some.injEq] at e; subst e; exact ⟨(), rfl⟩
  | fd :: r, cs, l, h, e => by
    simp only [EncF] at h
    obtain ⟨c1, c2, rfl, h1, h2⟩ := h
    simp only [fieldsP] at e
    obtain ⟨a, e1, e⟩ := bind_some'.1 e
    obtain ⟨b, e2, e⟩ := bind_some'.1 e
    simp only [Option.some.injEq] at e; subst e
    obtain ⟨x, hx⟩ := ih _ _ _ h1 e1
    obtain ⟨y, hy⟩ := enc_fields ih r c2 b h2 e2
    exact ⟨_, hx.app hy⟩
theorem choose_list {α β : Type} {r : α → β → Prop} : ∀ {es : List β}, (∀ e ∈ es, ∃ a, r a e) → ∃ l, All2 r l es
  | [], _ => ⟨[], trivial⟩
  | e :: es, h => by
    obtain ⟨a, ha⟩ := h e (by simp)
    obtain ⟨l, hl⟩ := choose_list (fun e he => h e (by simp [he])) (es := es)
    exact ⟨a :: l, ha, hl⟩
theorem All2.mem_l {α β : Type} {r : α → β → Prop} : ∀ {l : List α} {m : List β}, All2 r l m → ∀ a ∈ l, ∃ b, r a b
  | a :: l, b :: m, h, x, hx => by
    rcases List.mem_cons.1 hx with rfl | hx
    · exact ⟨b, h.1⟩
    · exact All2.mem_l h.2 x hx
  | [], [], _, x, hx => by simp at hx
  | [], _ :: _, h, _, _ => h.elim
  | _ :: _, [], h, _, _ => h.elim
theorem enc_cells {P : Program} {p ln : Bool} : ∀ (m : Nat) (t : TypeId) (cs : List IV) (l : List Ty), Enc P m t cs → cellsP P m t = some l → ∃ x, CellsR p ln l x cs
  | 0, t, cs, l, h, e => by simp [cellsP] at e
  | m + 1, t, cs, l, h, e => by
    have ih := enc_cells (P := P) (p := p) (ln := ln) m
    unfold Enc at h
    unfold cellsP at e
    cases hu : P.underlying t with
    | none => simp [hu] at e
    | some d =>
      simp only [hu] at h e
      cases d <;> simp only at h e <;> try (cases e; done)
      case bool =>
        simp only [Option.some.injEq] at e; subst e
        obtain ⟨b, rfl⟩ := h
        exact ⟨(b, ()), [.bool b], [], rfl, ⟨rfl, trivial⟩, rfl⟩
      case int k =>
        simp only [Option.some.injEq] at e; subst e
        obtain ⟨n, rfl, hw⟩ := h
        refine ⟨(n, ()), [.int k n], [], rfl, ⟨rfl, ?_⟩, rfl⟩
        simpa [Lit.wf, Wf] using hw
      case string =>
        simp only [Option.some.injEq] at e; subst e
        obtain ⟨s, rfl, hs⟩ := h
        exact ⟨(s, ()), [.str s], [], rfl, ⟨rfl, hs⟩, rfl⟩
      case slice el =>
        obtain ⟨l', e1, e⟩ := bind_some'.1 e
        simp only [Option.some.injEq] at e; subst e
        rcases h with rfl | ⟨es, rfl, hl, h⟩
        · exact ⟨([], ()), [.nils], [], rfl, ⟨⟨_, rfl, .inl ⟨rfl, .inl rfl⟩⟩, by simp [Wf]⟩, rfl⟩
        · obtain ⟨xs, hx⟩ := choose_list (r := fun (x : (rowTy l').den) c => TR p Zn [] ln (rowTy l') false x c ∧ Wf (rowTy l') x) (es := es) (fun c hc => by
            obtain ⟨x, hx⟩ := ih el c l' (h c hc) e1
            exact ⟨pack x, hx.row⟩)
          refine ⟨(xs, ()), [.ro false es], [], rfl, ⟨⟨_, rfl, .inr (.inl ⟨false, es, rfl, by simp, hx.imp fun a b h => h.1⟩)⟩, ?_, fun x hm => ?_⟩, rfl⟩
          · rw [← hx.len]; exact hl
          · obtain ⟨c, _, h2⟩ := hx.mem_l x hm; exact h2
      case struct fs => exact enc_fields ih fs.toList cs l h e
      case array n el =>
        obtain ⟨l', e1, e⟩ := bind_some'.1 e
        simp only [Option.some.injEq] at e; subst e
        obtain ⟨es, rfl, hl, h⟩ := h
        obtain ⟨xs, hx⟩ := choose_list (r := fun (x : (rowTy l').den) c => TR p Zn [] ln (rowTy l') false x c ∧ Wf (rowTy l') x) (es := es) (fun c hc => by
          obtain ⟨x, hx⟩ := ih el c l' (h c hc) e1
          exact ⟨pack x, hx.row⟩)
        refine ⟨(xs, ()), es.flatten, [], by simp, ⟨⟨es, rfl, hl, hx.imp fun a b h => h.1⟩, ?_, fun x hm => ?_⟩, rfl⟩
        · rw [← hx.len]; exact hl
        · obtain ⟨c, _, h2⟩ := hx.mem_l x hm; exact h2
/-- The types of a function's arguments, as data. -/
def argsP (P : Program) (m : Nat) : List TypeId → Option (List VTy)
  | [] => some []
  | t :: r => (cellsP P m t).bind fun l => (argsP P m r).bind fun vs => some (⟨aggT P t, rowTy l⟩ :: vs)
def WfA : (vs : List VTy) → (rowTy (vs.map (·.t))).den → Prop
  | [], _ => True
  | v :: vs, x => Wf v.t (headD v.t (vs.map (·.t)) x) ∧ WfA vs (tailD v.t (vs.map (·.t)) x)
theorem enc_args {P : Program} {p : Bool} {m : Nat} : ∀ (ts : List TypeId) (ivs : List IV) (vs : List VTy), EncAll P m ts ivs → argsP P m ts = some vs → ∃ x, TVs p Zn [] true false vs x ivs ∧ WfA vs x
  | [], ivs, vs, h, e => by simp only [argsP, Option.some.injEq] at e; subst e; exact ⟨(), h, trivial⟩
  | t :: ts, ivs, vs, h, e => by
    simp only [argsP] at e
    obtain ⟨l, e1, e⟩ := bind_some'.1 e
    obtain ⟨vs', e2, e⟩ := bind_some'.1 e
    simp only [Option.some.injEq] at e; subst e
    simp only [EncAll] at h
    obtain ⟨iv, r, rfl, h1, h2⟩ := h
    obtain ⟨y, hy, hw⟩ := enc_args ts r vs' h2 e2
    obtain ⟨cs, h3, h4⟩ := h1
    obtain ⟨d, hd⟩ := enc_cells (p := p) (ln := true) m t cs l h3 e1
    have hrow := hd.row
    refine ⟨consD _ _ (pack d) y, ?_, ?_⟩
    · refine ⟨iv, r, rfl, ?_, ?_⟩
      · rw [headD_consD]
        unfold TV
        rcases h4 with ⟨ha, rfl⟩ | ⟨ha, rfl⟩
        · rw [if_pos ha]; exact ⟨cs, rfl, hrow.1⟩
        · rw [if_neg (by simp [ha])]; exact hrow.1
      · rw [tailD_consD]; exact hy
    · simp only [WfA]
      rw [headD_consD, tailD_consD]; exact ⟨hrow.2, hw⟩
theorem fz_bool {h : Heap} {d : Nat} {iv : IV} {b : Bool} (e : fz h d iv = some (.bool b)) : iv = .bool b := by
  cases d with
  | zero =>
    unfold fz at e
    split at e
    · cases e
    · simpa using e
  | succ d =>
    unfold fz at e
    split at e
    · rename_i ho
      cases iv <;> simp only [IV.own] at ho <;> try (cases ho; done)
      all_goals simp only at e
      · obtain ⟨_, _, e⟩ := bind_some'.1 e
        obtain ⟨_, _, e⟩ := bind_some'.1 e
        obtain ⟨_, _, e⟩ := bind_some'.1 e
        simp at e
      · obtain ⟨_, _, e⟩ := bind_some'.1 e
        split at e
        · obtain ⟨_, _, e⟩ := bind_some'.1 e
          simp at e
        · cases e
      · obtain ⟨_, _, e⟩ := bind_some'.1 e
        simp at e
      · obtain ⟨_, _, e⟩ := bind_some'.1 e
        simp at e
      · obtain ⟨_, _, e⟩ := bind_some'.1 e
        simp at e
      · obtain ⟨_, _, e⟩ := bind_some'.1 e
        obtain ⟨_, _, e⟩ := bind_some'.1 e
        simp at e
    · simpa using e
/-- A law holds where its plain function gives true. -/
theorem law_of {P : Program} {prog : Nat → Option SFn} {opn : Nat → Bool} {f m : Nat} {ct : Ct} {ts : List TypeId} (hc : CtOk prog opn f ct) (hres : ct.res = [⟨false, .bool⟩]) (hargs : argsP P m ts = some ct.args)
    (law : ∀ x, WfA ct.args x → ∃ r, ct.F x = some r ∧ ∀ p iv, TRes p (!ct.fresh) ct.res r iv → iv = .bool true) : ∀ ivs, EncAll P m ts ivs → ∃ n h, evCall prog opn n f ivs [] = some (.bool true, h) := by
  intro ivs hi
  obtain ⟨x, h1, h2⟩ := enc_args (p := true) ts ivs ct.args hi hargs
  obtain ⟨r, h3, h4⟩ := law x h2
  obtain ⟨iv, h', iv', h5, h6, h7⟩ := hc.ok true x ivs r h1 h3
  have := h4 _ _ h7
  subst this
  have := fz_bool h6
  subst this
  obtain ⟨n, hn⟩ := (callL_some prog opn).1 h5
  exact ⟨n, h', hn⟩
theorem bool_res {p ln : Bool} {r : Bool} {iv : IV} (h : TRes p ln [⟨false, .bool⟩] r iv) (hr : r = true) : iv = .bool true := by
  obtain ⟨ivs, h, rfl⟩ := h
  obtain ⟨iv, rr, rfl, h1, rfl⟩ := h
  unfold TV at h1
  rw [if_neg (by simp)] at h1
  simp only [TR, headD, List.cons.injEq, and_true] at h1
  subst hr; exact h1
end Go.Ideal
set_option linter.unusedVariables false
namespace Go.Ideal
section
variable {S X A E : Type}
theorem iterL_inl {f : S → Option (S ⊕ X)} {s s' : S} (h : f s = some (.inl s')) : iterL f s = iterL f s' := by rw [iterL_eq, h]; rfl
theorem iterL_inr {f : S → Option (S ⊕ X)} {s : S} {x : X} (h : f s = some (.inr x)) : iterL f s = some x := by rw [iterL_eq, h]; rfl
/-- A loop along a list, from a place on. -/
def runL (step : A → Nat → E → Option (A ⊕ X)) (fin : A → Option X) : Nat → A → List E → Option X
  | _, a, [] => fin a
  | i, a, e :: r => (step a i e).bind fun y => match y with
    | .inl a' => runL step fin (i + 1) a' r
    | .inr x => some x
theorem iter_run_from {l : List E} {f : S → Option (S ⊕ X)} {mk : A → Int → S} {step : A → Nat → E → Option (A ⊕ X)} {fin : A → Option X} (inv : Nat → A → Prop)
    (h1 : ∀ a i e, l[i]? = some e → inv i a → f (mk a i) = (step a i e).map fun y => match y with | .inl a' => .inl (mk a' ((i + 1 : Nat) : Int)) | .inr x => .inr x)
    (hi : ∀ a i e a', l[i]? = some e → inv i a → step a i e = some (.inl a') → inv (i + 1) a') (h2 : ∀ a, inv l.length a → f (mk a l.length) = (fin a).map .inr) :
    ∀ (r : List E) (i : Nat) (a : A), l = l.take i ++ r → i + r.length = l.length → inv i a → iterL f (mk a i) = runL step fin i a r
  | [], i, a, hl, hn, hv => by
    simp only [List.length_nil, Nat.add_zero] at hn
    subst hn
    rw [iterL_eq, h2 a hv]
    simp only [runL]
    cases fin a <;> rfl
  | e :: r, i, a, hl, hn, hv => by
    have he : l[i]? = some e := by
      have hlen : (l.take i).length = i := by simp only [List.length_take, List.length_cons] at hn ⊢; omega
      rw [hl, List.getElem?_append_right (by omega), hlen]; simp
    rw [iterL_eq, h1 a i e he hv]
    simp only [runL]
    cases hs : step a i e with
    | none => rfl
    | some y =>
      cases y with
      | inl a' =>
        simp only [Option.map_some, Option.bind_some]
        refine iter_run_from inv h1 hi h2 r (i + 1) a' ?_ (by simp only [List.length_cons] at hn; omega) (hi a i e a' he hv hs)
        have hlt : i < l.length := by simp only [List.length_cons] at hn; omega
        have hg : l[i] = e := by rw [List.getElem?_eq_getElem hlt] at he; injection he
        conv => lhs; rw [hl]
        rw [List.take_add_one, he]; simp
      | inr x => rfl
/-- A loop along a whole list. -/
theorem iter_run {l : List E} {f : S → Option (S ⊕ X)} {mk : A → Int → S} {step : A → Nat → E → Option (A ⊕ X)} {fin : A → Option X} (inv : Nat → A → Prop)
    (h1 : ∀ a i e, l[i]? = some e → inv i a → f (mk a i) = (step a i e).map fun y => match y with | .inl a' => .inl (mk a' ((i + 1 : Nat) : Int)) | .inr x => .inr x)
    (hi : ∀ a i e a', l[i]? = some e → inv i a → step a i e = some (.inl a') → inv (i + 1) a') (h2 : ∀ a, inv l.length a → f (mk a l.length) = (fin a).map .inr) {a : A} (h0 : inv 0 a) :
    iterL f (mk a 0) = runL step fin 0 a l := by
  have := iter_run_from inv h1 hi h2 l 0 a (by simp) (by simp) h0
  simpa using this
/-- A run whose steps are plain. -/
def stepS (g : A → E → A) : A → Nat → E → Option (A ⊕ X) := fun a _ e => some (.inl (g a e))
theorem runL_fold {g : A → E → A} {fin : A → Option X} : ∀ {l : List E} {i : Nat} {a : A}, runL (stepS g) fin i a l = fin (l.foldl g a)
  | [], _, _ => rfl
  | e :: l, i, a => by simp only [runL, stepS, Option.bind_some, List.foldl_cons]; exact runL_fold
end
theorem wsucc {i : Nat} (h : i < 2 ^ 62) : IntKind.i64.wrap ((i : Int) + 1) = ((i + 1 : Nat) : Int) := by
  rw [Go.IntWalk.i64_in _ (by omega)]; rfl
theorem getE_bound {α : Type} {l : List α} {i : Nat} {e : α} (h : l[i]? = some e) : i < l.length := (List.getElem?_eq_some_iff.1 h).1
theorem cond_ite {α : Type} (p : Prop) [Decidable p] (a b : α) : (bif decide p then a else b) = if p then a else b := by by_cases h : p <;> simp [h]
end Go.Ideal
