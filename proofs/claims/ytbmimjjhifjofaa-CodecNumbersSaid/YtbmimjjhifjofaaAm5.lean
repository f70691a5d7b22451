/- THE ABSTRACT MACHINE, 5: equality of plain structs; operations that only compute, all of them. -/
import Derived.Test.YtbmimjjhifjofaaAm4
namespace Go.Am
open Go

inductive EqK where
  | b | i | s
def litEq : EqK → Value → Value → Option Bool
  | .i, .int k a, .int k' b => if k = k' then some (a == b) else none
  | .b, .bool a, .bool b => some (a == b)
  | .s, .string a, .string b => some (a == b)
  | _, _, _ => none
def eqAll : List EqK → List Value → List Value → Option Bool
  | [], [], [] => some true
  | [k], [a], [b] => litEq k a b
  | k :: ks, a :: as, b :: bs => match litEq k a b, eqAll ks as bs with
    | some x, some y => some (x && y)
    | _, _ => none
  | _, _, _ => none

/-- The kinds of the cells of a struct's fields. -/
def plainF (rec : TypeId → Option (List EqK)) : List Field → Nat → Option (List EqK)
  | [], _ => some []
  | f :: fs, o => if f.name ≠ "_" ∧ f.offset = o then (match rec f.type with
      | some ks => (plainF rec fs (o + ks.length)).map (ks ++ ·)
      | none => none) else none
/-- The kinds of the cells of a type whose values are equal just where all their cells are. -/
def plainEq (P : Program) : Nat → TypeId → Option (List EqK)
  | 0, _ => none
  | d + 1, t =>
    match P.underlying t with
    | some .bool => some [.b]
    | some (.int _) => some [.i]
    | some .string => some [.s]
    | some (.struct fs) => if P.stoodInHeld t = false then (match plainF (plainEq P d) fs.toList 0, tSize P t with
        | some ks, some m => if ks.length = m then some ks else none
        | _, _ => none) else none
    | _ => none

def wrapV (P : Program) (t : TypeId) (xs : List Value) : Value := if tAgg P t = some true then .agg xs.toArray else xs.headD undef

theorem eqAll_cons (k : EqK) (ks : List EqK) (a c : Value) (as bs : List Value) (b : Bool) : eqAll (k :: ks) (a :: as) (c :: bs) = some b ↔ ∃ x y, litEq k a c = some x ∧ eqAll ks as bs = some y ∧ b = (x && y) := by
  constructor
  · intro h
    match ks, as, bs, h with
    | [], [], [], h => exact ⟨b, true, h, rfl, by simp⟩
    | [], [], _ :: _, h => simp only [eqAll] at h; cases hl : litEq k a c <;> simp [hl] at h
    | [], _ :: _, _, h => simp only [eqAll] at h; cases hl : litEq k a c <;> simp [hl] at h
    | k' :: ks, as, bs, h =>
      simp only [eqAll] at h
      cases hl : litEq k a c with
      | none => simp [hl] at h
      | some x =>
        cases hr : eqAll (k' :: ks) as bs with
        | none => simp [hl, hr] at h
        | some y => simp [hl, hr] at h; exact ⟨x, y, rfl, rfl, h.symm⟩
  · rintro ⟨x, y, h1, h2, rfl⟩
    match ks, as, bs, h2 with
    | [], [], [], h2 => simp [eqAll] at h2; subst h2; simpa [eqAll] using h1
    | [], [], _ :: _, h2 => simp [eqAll] at h2
    | [], _ :: _, _, h2 => simp [eqAll] at h2
    | k' :: ks, as, bs, h2 => simp [eqAll, h1, h2]
theorem eqAll_len : ∀ {ks : List EqK} {xs ys : List Value} {b : Bool}, eqAll ks xs ys = some b → xs.length = ks.length ∧ ys.length = ks.length
  | [], [], [], _, _ => ⟨rfl, rfl⟩
  | k :: ks, a :: as, c :: bs, b, h => by
    obtain ⟨x, y, _, h2, _⟩ := (eqAll_cons ..).1 h
    obtain ⟨h3, h4⟩ := eqAll_len h2
    simp [h3, h4]
  | [], [], _ :: _, _, h => by simp [eqAll] at h
  | [], _ :: _, _, _, h => by simp [eqAll] at h
  | _ :: _, [], _, _, h => by simp [eqAll] at h
  | _ :: _, _ :: _, [], _, h => by simp [eqAll] at h
theorem eqAll_append : ∀ {ks js : List EqK} {as bs cs ds : List Value} {b : Bool}, as.length = ks.length → bs.length = ks.length → eqAll (ks ++ js) (as ++ cs) (bs ++ ds) = some b → ∃ x y, eqAll ks as bs = some x ∧ eqAll js cs ds = some y ∧ b = (x && y)
  | [], js, [], [], cs, ds, b, _, _, h => ⟨true, b, rfl, h, by simp⟩
  | k :: ks, js, a :: as, c :: bs, cs, ds, b, hl, hl', h => by
    simp only [List.cons_append] at h
    obtain ⟨x1, y1, h1, h2, rfl⟩ := (eqAll_cons ..).1 h
    obtain ⟨x, y, hx, hy, rfl⟩ := eqAll_append (by simpa using hl) (by simpa using hl') h2
    exact ⟨x1 && x, y, (eqAll_cons ..).2 ⟨x1, x, h1, hx, rfl⟩, hy, by rw [Bool.and_assoc]⟩
  | [], _, _ :: _, _, _, _, _, h, _, _ => by simp at h
  | [], _, [], _ :: _, _, _, _, _, h, _ => by simp at h
  | _ :: _, _, [], _, _, _, _, h, _, _ => by simp at h
  | _ :: _, _, _ :: _, [], _, _, _, _, h, _ => by simp at h

theorem part_wrap {P : Program} {t : TypeId} {n : Nat} {g : Bool} (hg : tAgg P t = some g) (hs : g = true → tSize P t = some n) (h1 : g = false → n = 1) (vs : List Value) (off : Nat) (hfit : off + n ≤ vs.length) (w : World) :
    (part t vs.toArray off).run P w = .ok (wrapV P t ((vs.drop off).take n)) w := by
  cases g with
  | true => simp [part, run_isAgg hg, run_size (hs rfl), wrapV, hg]
  | false =>
    have := h1 rfl; subst this
    have hlt : off < vs.length := by omega
    simp [part, run_isAgg hg, wrapV, hg, List.getElem?_eq_getElem hlt]
    rw [List.drop_eq_getElem_cons hlt]; rfl

theorem plainEq_agg {P : Program} {d : Nat} {t : TypeId} {ks : List EqK} (h : plainEq P d t = some ks) : ∃ g, tAgg P t = some g ∧ (g = true → tSize P t = some ks.length) ∧ (g = false → ks.length = 1) := by
  cases d with
  | zero => simp [plainEq] at h
  | succ d =>
    unfold plainEq at h
    unfold tAgg
    cases hu : P.underlying t with
    | none => simp [hu] at h
    | some ds =>
      cases ds <;> simp only [hu] at h <;> try (cases h; done)
      case bool => cases h; exact ⟨false, rfl, by simp, fun _ => rfl⟩
      case int => cases h; exact ⟨false, rfl, by simp, fun _ => rfl⟩
      case string => cases h; exact ⟨false, rfl, by simp, fun _ => rfl⟩
      case struct fs =>
        split at h
        · cases hp : plainF (plainEq P d) fs.toList 0 with
          | none => simp [hp] at h
          | some m =>
            cases hs : tSize P t with
            | none => simp [hp, hs] at h
            | some k =>
              simp only [hp, hs] at h
              split at h
              · rename_i e; cases h; exact ⟨true, rfl, fun _ => by rw [e], by simp⟩
              · cases h
        · cases h

theorem plain_sound {P : Program} : ∀ (d : Nat) {t : TypeId} {ks : List EqK}, plainEq P d t = some ks → ∀ {xs ys : List Value} {b : Bool}, eqAll ks xs ys = some b → ∀ w : World,
    (Op.equalIn d t (wrapV P t xs) (wrapV P t ys)).run P w = .ok b w
  | 0, t, ks, h, _, _, _, _, _ => by simp [plainEq] at h
  | d + 1, t, ks, h, xs, ys, b, he, w => by
    obtain ⟨hx, hy⟩ := eqAll_len he
    unfold plainEq at h
    cases hu : P.underlying t with
    | none => simp [hu] at h
    | some ds =>
      have one : ∀ (hna : tAgg P t = some false) (k : EqK) (hn : ks = [k]), ∃ x y, wrapV P t xs = x ∧ wrapV P t ys = y ∧ litEq k x y = some b := by
        intro hna k hn
        subst hn
        match xs, ys, hx, hy, he with
        | [x], [y], _, _, he => exact ⟨x, y, by simp [wrapV, hna], by simp [wrapV, hna], he⟩
      cases ds <;> simp only [hu] at h <;> try (cases h; done)
      case bool =>
        cases h
        obtain ⟨x, y, h1, h2, h3⟩ := one (by simp [tAgg, hu]) _ rfl
        rw [h1, h2]
        cases x <;> cases y <;> simp only [litEq] at h3 <;> first | (cases h3; done) | skip
        cases h3
        simp [Op.equalIn, run_underlying hu]
      case int kd =>
        cases h
        obtain ⟨x, y, h1, h2, h3⟩ := one (by simp [tAgg, hu]) _ rfl
        rw [h1, h2]
        cases x <;> cases y <;> simp only [litEq] at h3 <;> first | (cases h3; done) | skip
        split at h3
        · rename_i e; cases h3; subst e; simp [Op.equalIn, run_underlying hu]
        · cases h3
      case string =>
        cases h
        obtain ⟨x, y, h1, h2, h3⟩ := one (by simp [tAgg, hu]) _ rfl
        rw [h1, h2]
        cases x <;> cases y <;> simp only [litEq] at h3 <;> first | (cases h3; done) | skip
        cases h3
        simp [Op.equalIn, run_underlying hu]
      case struct fs =>
        split at h
        · rename_i hst
          cases hp : plainF (plainEq P d) fs.toList 0 with
          | none => simp [hp] at h
          | some ks' =>
            cases hs : tSize P t with
            | none => simp [hp, hs] at h
            | some k =>
              simp only [hp, hs] at h
              split at h
              · rename_i e
                cases h
                have hta : tAgg P t = some true := by simp [tAgg, hu]
                have hfo : P.fieldsOf t = fs := by simp [Program.fieldsOf, hu]
                simp only [wrapV, hta, if_true]
                rw [run_equalIn_struct w d t _ _ (by rw [hfo]; exact hu) hst, hfo]
                have key : ∀ (fl : List Field) (o : Nat) (js : List EqK) (b' : Bool), plainF (plainEq P d) fl o = some js → o + js.length = xs.length → o + js.length = ys.length → eqAll js (xs.drop o) (ys.drop o) = some b' →
                    (Op.eqFields d xs.toArray ys.toArray fl).run P w = .ok b' w := by
                  intro fl
                  induction fl with
                  | nil =>
                    intro o js b' h1 hx1 hy1 h2
                    simp [plainF] at h1
                    subst h1
                    simp at hx1 hy1
                    rw [List.drop_of_length_le (by omega), List.drop_of_length_le (by omega)] at h2
                    simp [eqAll] at h2; subst h2
                    simp [Op.eqFields]
                  | cons f fl ih =>
                    intro o js b' h1 hx1 hy1 h2
                    unfold plainF at h1
                    split at h1
                    · rename_i hf
                      obtain ⟨hname, hoff⟩ := hf
                      cases hpe : plainEq P d f.type with
                      | none => simp [hpe] at h1
                      | some q =>
                        simp only [hpe] at h1
                        cases hpf : plainF (plainEq P d) fl (o + q.length) with
                        | none => simp [hpf] at h1
                        | some js' =>
                          simp [hpf] at h1
                          subst h1
                          simp only [List.length_append] at hx1 hy1
                          obtain ⟨g, hg1, hg2, hg3⟩ := plainEq_agg hpe
                          have e1 : xs.drop o = (xs.drop o).take q.length ++ xs.drop (o + q.length) := by rw [← List.drop_drop]; exact (List.take_append_drop _ _).symm
                          have e2 : ys.drop o = (ys.drop o).take q.length ++ ys.drop (o + q.length) := by rw [← List.drop_drop]; exact (List.take_append_drop _ _).symm
                          rw [e1, e2] at h2
                          obtain ⟨x, y, hx', hy', rfl⟩ := eqAll_append (by simp; omega) (by simp; omega) h2
                          have r1 := part_wrap hg1 hg2 hg3 xs o (by omega) w
                          have r2 := part_wrap hg1 hg2 hg3 ys o (by omega) w
                          have r3 := plain_sound d hpe hx' w
                          subst hoff
                          unfold Op.eqFields
                          rw [if_pos hname]
                          simp only [Sem.run_bind, r1, r2, r3, Result.andThen_ok]
                          cases x with
                          | false => simp
                          | true => simpa using ih _ _ _ hpf (by omega) (by omega) hy'
                    · cases h1
                exact key fs.toList 0 ks b hp (by omega) (by omega) (by simpa using he)
              · cases h
        · cases h
end Go.Am
