/- Plain: what is printed, as signs and numbers; it tells them. Conditions: none. -/
import Derived.Test.YtapjlmehfbnaoaaDoorHex
namespace Go.Proofs.YtapjlmehfbnaoaaDoor
open Go Go.Proofs

/-- A part of what is printed: a sign that is no digit, a number, a number by base 16. -/
inductive Tok where
  | ch (c : UInt8)
  | nu (n : Nat)
  | hx (n : Nat)
  deriving DecidableEq
def Tok.pr : Tok → List UInt8
  | .ch c => [c]
  | .nu n => Lib.decDigits n
  | .hx n => 48 :: 120 :: hexL n
def prs (l : List Tok) : List UInt8 := l.flatMap Tok.pr

def isDig (c : UInt8) : Bool := 48 ≤ c && c ≤ 57
def isHex (c : UInt8) : Bool := isDig c || (97 ≤ c && c ≤ 102)
/-- What may stand behind a number: no digit, no x; behind one by base 16: none of its digits. -/
def endsN : List Tok → Bool
  | [] => true
  | .ch c :: _ => !isDig c && c != 120
  | _ => false
def endsH : List Tok → Bool
  | [] => true
  | .ch c :: _ => !isHex c
  | _ => false
def okT : List Tok → Bool
  | [] => true
  | .ch c :: l => !isDig c && okT l
  | .nu _ :: l => endsN l && okT l
  | .hx _ :: l => endsH l && okT l

theorem dig_of (n : Nat) (h : n < 10) : isDig (UInt8.ofNat (48 + n)) = true := by
  have : ∀ m : Fin 10, isDig (UInt8.ofNat (48 + m.val)) = true := by decide
  exact this ⟨n, h⟩
theorem hex_of (n : Nat) (h : n < 16) : isHex (hexDigit n) = true := by
  have : ∀ m : Fin 16, isHex (hexDigit m.val) = true := by decide
  exact this ⟨n, h⟩
theorem dec_dig (n : Nat) : ∀ c ∈ Lib.decDigits n, isDig c = true := by
  induction n using Nat.strongRecOn with
  | _ n ih =>
    rw [Lib.decDigits]
    split
    · intro c hc
      rw [List.mem_singleton.1 hc]
      exact dig_of n ‹_›
    · intro c hc
      rcases List.mem_append.1 hc with hc | hc
      · exact ih (n / 10) (by omega) c hc
      · rw [List.mem_singleton.1 hc]
        exact dig_of _ (by omega)
theorem hexL_hex (n : Nat) : ∀ c ∈ hexL n, isHex c = true := by
  induction n using Nat.strongRecOn with
  | _ n ih =>
    rw [hexL]
    split
    · intro c hc
      rw [List.mem_singleton.1 hc]
      exact hex_of n ‹_›
    · intro c hc
      rcases List.mem_append.1 hc with hc | hc
      · exact ih (n / 16) (by omega) c hc
      · rw [List.mem_singleton.1 hc]
        exact hex_of _ (by omega)
theorem dec_ne (n : Nat) : Lib.decDigits n ≠ [] := by
  rw [Lib.decDigits]
  split <;> simp
theorem dg_inj {a b : Nat} (ha : a < 10) (hb : b < 10) (h : UInt8.ofNat (48 + a) = UInt8.ofNat (48 + b)) : a = b := by
  have : ∀ x y : Fin 10, UInt8.ofNat (48 + x.val) = UInt8.ofNat (48 + y.val) → x = y := by decide
  simpa using this ⟨a, ha⟩ ⟨b, hb⟩ h
theorem hd_inj {a b : Nat} (ha : a < 16) (hb : b < 16) (h : hexDigit a = hexDigit b) : a = b := by
  have : ∀ x y : Fin 16, hexDigit x.val = hexDigit y.val → x = y := by decide
  simpa using this ⟨a, ha⟩ ⟨b, hb⟩ h
theorem dec_inj (a b : Nat) (h : Lib.decDigits a = Lib.decDigits b) : a = b := by
  induction a using Nat.strongRecOn generalizing b with
  | _ a ih =>
    have hna := dec_ne (a / 10)
    have hnb := dec_ne (b / 10)
    rw [Lib.decDigits, Lib.decDigits.eq_def b] at h
    by_cases h1 : a < 10 <;> by_cases h2 : b < 10
    · rw [dif_pos h1, dif_pos h2] at h
      exact dg_inj h1 h2 (by simpa using h)
    · rw [dif_pos h1, dif_neg h2] at h
      have h5 := congrArg List.length h
      have h6 := List.length_pos_iff.2 hnb
      simp only [List.length_append, List.length_cons, List.length_nil] at h5
      omega
    · rw [dif_neg h1, dif_pos h2] at h
      have h5 := congrArg List.length h
      have h6 := List.length_pos_iff.2 hna
      simp only [List.length_append, List.length_cons, List.length_nil] at h5
      omega
    · rw [dif_neg h1, dif_neg h2] at h
      obtain ⟨h3, h4⟩ := List.append_inj' h rfl
      have := ih (a / 10) (by omega) (b / 10) h3
      have := dg_inj (a := a % 10) (b := b % 10) (by omega) (by omega) (by simpa using h4)
      omega
theorem hexL_inj (a b : Nat) (h : hexL a = hexL b) : a = b := by
  induction a using Nat.strongRecOn generalizing b with
  | _ a ih =>
    have hna := hexL_pos (a / 16)
    have hnb := hexL_pos (b / 16)
    by_cases h1 : a < 16 <;> by_cases h2 : b < 16
    · rw [hexL_small a h1, hexL_small b h2] at h
      exact hd_inj h1 h2 (by simpa using h)
    · rw [hexL_small a h1, hexL_step b (by omega)] at h
      have h5 := congrArg List.length h
      simp only [List.length_append, List.length_cons, List.length_nil] at h5
      omega
    · rw [hexL_step a (by omega), hexL_small b h2] at h
      have h5 := congrArg List.length h
      simp only [List.length_append, List.length_cons, List.length_nil] at h5
      omega
    · rw [hexL_step a (by omega), hexL_step b (by omega)] at h
      obtain ⟨h3, h4⟩ := List.append_inj' h rfl
      have := ih (a / 16) (by omega) (b / 16) h3
      have := hd_inj (a := a % 16) (b := b % 16) (by omega) (by omega) (by simpa using h4)
      omega

theorem span_eq (p : UInt8 → Bool) (a b x y : List UInt8) (ha : ∀ c ∈ a, p c = true) (hb : ∀ c ∈ b, p c = true) (hx : ∀ c, x.head? = some c → p c = false) (hy : ∀ c, y.head? = some c → p c = false) (h : a ++ x = b ++ y) : a = b ∧ x = y := by
  induction a generalizing b with
  | nil =>
    cases b with
    | nil => exact ⟨rfl, by simpa using h⟩
    | cons d b =>
      have h1 := hx d (by rw [show x = d :: b ++ y from by simpa using h]; rfl)
      rw [hb d List.mem_cons_self] at h1
      cases h1
  | cons c a ih =>
    cases b with
    | nil =>
      have h1 := hy c (by rw [show y = c :: a ++ x from by simpa using h.symm]; rfl)
      rw [ha c List.mem_cons_self] at h1
      cases h1
    | cons d b =>
      simp only [List.cons_append, List.cons.injEq] at h
      obtain ⟨h1, h2⟩ := ih b (fun c hc => ha c (List.mem_cons_of_mem _ hc)) (fun c hc => hb c (List.mem_cons_of_mem _ hc)) h.2
      exact ⟨by rw [h.1, h1], h2⟩

theorem endsN_head {l : List Tok} (h : endsN l = true) : ∀ c, (prs l).head? = some c → isDig c = false ∧ c ≠ 120 := by
  intro c hc
  match l, h with
  | [], _ => simp [prs] at hc
  | .ch d :: l, h =>
    simp [prs, Tok.pr] at hc
    subst hc
    simpa [endsN] using h
theorem endsH_head {l : List Tok} (h : endsH l = true) : ∀ c, (prs l).head? = some c → isHex c = false := by
  intro c hc
  match l, h with
  | [], _ => simp [prs] at hc
  | .ch d :: l, h =>
    simp [prs, Tok.pr] at hc
    subst hc
    simpa [endsH] using h
theorem prs_cons (t : Tok) (l : List Tok) : prs (t :: l) = t.pr ++ prs l := by simp [prs]
theorem prs_app (l m : List Tok) : prs (l ++ m) = prs l ++ prs m := by simp [prs]
theorem pr_head (t : Tok) : ∃ c r, t.pr = c :: r ∧ (∀ d, t = .ch d → c = d) ∧ ((∀ d, t ≠ .ch d) → isDig c = true) := by
  cases t with
  | ch d => exact ⟨d, [], rfl, fun _ h => by injection h, fun h => absurd rfl (h d)⟩
  | nu n =>
    have h1 := dec_ne n
    have h2 := dec_dig n
    cases h : Lib.decDigits n with
    | nil => exact absurd h h1
    | cons c r => exact ⟨c, r, h, (fun _ h => by cases h), fun _ => h2 c (by rw [h]; exact List.mem_cons_self)⟩
  | hx n => exact ⟨48, _, rfl, (fun _ h => by cases h), fun _ => by decide⟩

theorem prs_inj (l m : List Tok) (hl : okT l = true) (hm : okT m = true) (h : prs l = prs m) : l = m := by
  induction l generalizing m with
  | nil =>
    cases m with
    | nil => rfl
    | cons t m =>
      obtain ⟨c, r, hc, _⟩ := pr_head t
      rw [prs_cons, hc] at h
      cases h
  | cons t l ih =>
    cases m with
    | nil =>
      obtain ⟨c, r, hc, _⟩ := pr_head t
      rw [prs_cons, hc] at h
      cases h
    | cons u m =>
      rw [prs_cons, prs_cons] at h
      cases t with
      | ch c =>
        simp only [okT, Bool.and_eq_true, Bool.not_eq_true'] at hl
        cases u with
        | ch d =>
          simp only [okT, Bool.and_eq_true] at hm
          simp only [Tok.pr, List.cons_append, List.nil_append, List.cons.injEq] at h
          rw [h.1, ih m hl.2 hm.2 h.2]
        | nu n =>
          obtain ⟨d, r, hd, _, h2⟩ := pr_head (.nu n)
          rw [hd] at h
          simp only [Tok.pr, List.cons_append, List.cons.injEq] at h
          have := h2 (fun _ h => by cases h)
          rw [← h.1, hl.1] at this
          cases this
        | hx n =>
          simp only [Tok.pr, List.cons_append, List.cons.injEq] at h
          rw [h.1] at hl
          exact absurd hl.1 (by decide)
      | nu n =>
        simp only [okT, Bool.and_eq_true] at hl
        have hx := endsN_head hl.1
        cases u with
        | ch d =>
          simp only [okT, Bool.and_eq_true, Bool.not_eq_true'] at hm
          obtain ⟨c, r, hd, _, h2⟩ := pr_head (.nu n)
          rw [hd] at h
          simp only [Tok.pr, List.cons_append, List.cons.injEq] at h
          have := h2 (fun _ h => by cases h)
          rw [h.1, hm.1] at this
          cases this
        | nu k =>
          simp only [okT, Bool.and_eq_true] at hm
          have hy := endsN_head hm.1
          obtain ⟨h1, h2⟩ := span_eq isDig _ _ _ _ (dec_dig n) (dec_dig k) (fun c hc => (hx c hc).1) (fun c hc => (hy c hc).1) h
          rw [dec_inj n k h1, ih m hl.2 hm.2 h2]
        | hx k =>
          have h' : Lib.decDigits n ++ prs l = [48] ++ (120 :: hexL k ++ prs m) := h
          obtain ⟨h1, h2⟩ := span_eq isDig _ _ _ _ (dec_dig n) (by intro c hc; rw [List.mem_singleton.1 hc]; decide) (fun c hc => (hx c hc).1) (fun c hc => by simp at hc; subst hc; decide) h'
          exact absurd rfl ((hx 120 (by rw [h2]; rfl)).2)
      | hx n =>
        simp only [okT, Bool.and_eq_true] at hl
        cases u with
        | ch d =>
          simp only [okT, Bool.and_eq_true, Bool.not_eq_true'] at hm
          simp only [Tok.pr, List.cons_append, List.cons.injEq] at h
          rw [← h.1] at hm
          exact absurd hm.1 (by decide)
        | nu k =>
          simp only [okT, Bool.and_eq_true] at hm
          have hy := endsN_head hm.1
          have h' : [48] ++ (120 :: hexL n ++ prs l) = Lib.decDigits k ++ prs m := h
          obtain ⟨h1, h2⟩ := span_eq isDig _ _ _ _ (by intro c hc; rw [List.mem_singleton.1 hc]; decide) (dec_dig k) (fun c hc => by simp at hc; subst hc; decide) (fun c hc => (hy c hc).1) h'
          exact absurd rfl ((hy 120 (by rw [← h2]; rfl)).2)
        | hx k =>
          simp only [okT, Bool.and_eq_true] at hm
          simp only [Tok.pr, List.cons_append, List.cons.injEq, true_and] at h
          obtain ⟨h1, h2⟩ := span_eq isHex _ _ _ _ (hexL_hex n) (hexL_hex k) (endsH_head hl.1) (endsH_head hm.1) h
          rw [hexL_inj n k h1, ih m hl.2 hm.2 h2]
end Go.Proofs.YtapjlmehfbnaoaaDoor
