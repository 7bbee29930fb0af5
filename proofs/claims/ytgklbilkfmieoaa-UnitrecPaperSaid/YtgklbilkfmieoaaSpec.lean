/- The character code as plain functions on lists of bytes: no program is named here. -/
namespace Job.Ebcdic

def codes : List UInt8 := [0x40,0x5a,0x7f,0x7b,0x5b,0x6c,0x50,0x7d,0x4d,0x5d,0x5c,0x4e,0x6b,0x60,0x4b,0x61,0xf0,0xf1,0xf2,0xf3,0xf4,0xf5,0xf6,0xf7,0xf8,0xf9,0x7a,0x5e,0x4c,0x7e,0x6e,0x6f,0x7c,0xc1,0xc2,0xc3,0xc4,0xc5,0xc6,0xc7,0xc8,0xc9,0xd1,0xd2,0xd3,0xd4,0xd5,0xd6,0xd7,0xd8,0xd9,0xe2,0xe3,0xe4,0xe5,0xe6,0xe7,0xe8,0xe9,0xba,0xe0,0xbb,0xb0,0x6d,0x79,0x81,0x82,0x83,0x84,0x85,0x86,0x87,0x88,0x89,0x91,0x92,0x93,0x94,0x95,0x96,0x97,0x98,0x99,0xa2,0xa3,0xa4,0xa5,0xa6,0xa7,0xa8,0xa9,0xc0,0x4f,0xd0,0xa1]

def hasCode (c : UInt8) : Bool := 32 ≤ c.toNat && c.toNat ≤ 126
/-- The code of a character, 0 where there is none. -/
def code (c : UInt8) : UInt8 := if hasCode c then codes.getD (c.toNat - 32) 0 else 0
def hasChar (b : UInt8) : Bool := codes.contains b
/-- The character of a code, 0 where there is none. -/
def char (b : UInt8) : UInt8 := if hasChar b then UInt8.ofNat (32 + codes.idxOf b) else 0
def dec (b : UInt8) : UInt8 := if hasChar b then char b else 46

theorem every (P : UInt8 → Bool) (h : (List.range 256).all (fun n => P (UInt8.ofNat n)) = true) (c : UInt8) : P c = true := by
  have := List.all_eq_true.1 h c.toNat (by simpa using c.toNat_lt)
  simpa using this

theorem hasChar_code (c : UInt8) (h : hasCode c = true) : hasChar (code c) = true := by
  have := every (fun c => !hasCode c || hasChar (code c)) (by decide +kernel) c
  simp [h] at this; exact this
theorem char_code (c : UInt8) (h : hasCode c = true) : char (code c) = c := by
  have := every (fun c => !hasCode c || char (code c) == c) (by decide +kernel) c
  simp [h] at this; exact this
theorem hasCode_char (b : UInt8) (h : hasChar b = true) : hasCode (char b) = true := by
  have := every (fun b => !hasChar b || hasCode (char b)) (by decide +kernel) b
  simp [h] at this; exact this
theorem code_char (b : UInt8) (h : hasChar b = true) : code (char b) = b := by
  have := every (fun b => !hasChar b || code (char b) == b) (by decide +kernel) b
  simp [h] at this; exact this
theorem dec_code (c : UInt8) (h : hasCode c = true) : dec (code c) = c := by
  unfold dec; rw [if_pos (hasChar_code c h), char_code c h]

/-- A string can be encoded. -/
def fine (s : List UInt8) : Bool := s.all hasCode
def enc (s : List UInt8) : List UInt8 := s.map code
def decs (b : List UInt8) : List UInt8 := b.map dec
/-- Without the blanks at the end. -/
def strip (x : UInt8) (b : List UInt8) : List UInt8 := (b.reverse.dropWhile (· == x)).reverse
def trim (b : List UInt8) : List UInt8 := decs (strip 0x40 b)

end Job.Ebcdic
